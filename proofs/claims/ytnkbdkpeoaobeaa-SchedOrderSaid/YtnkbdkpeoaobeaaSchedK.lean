/- the law's fixed calls. -/
import Derived.Test.YtnkbdkpeoaobeaaBase
import Derived.Test.YtnkbdkpeoaobeaaPlain20
import Derived.Test.YtnkbdkpeoaobeaaPlain20c
import Derived.Test.YtnkbdkpeoaobeaaSchedA
import Derived.Test.YtnkbdkpeoaobeaaSchedD
import Derived.Test.YtnkbdkpeoaobeaaSchedG
import Derived.Test.YtnkbdkpeoaobeaaSchedH

namespace Go.Proofs.Ytnkbdkpeoaobeaa
open Go.RowKit

theorem Sl.of_block {α : Type} {w : World} {B k g off : Nat} {enc : α → List Value} (hk : ∀ x, (enc x).length = k) {cs : Array Value} {e : TypeId} {l : List α} {rest : List Value} (h : w.heap[g]? = some (.cells cs e (0, 0))) (hg : g < B)
    (hl : cs.toList.drop off = l.flatMap enc ++ rest) : Sl w B k enc (some ⟨g, off, none⟩) l := by
  intro _
  refine ⟨g, off, rfl, hg, fun i x hx j u hu => ?_⟩
  have h1 := flatMap_get enc k hk l i j x u hx hu
  have h2 : (cs.toList.drop off)[i * k + j]? = some u := by
    rw [hl, List.getElem?_append_left (List.getElem?_eq_some_iff.1 h1).1]; exact h1
  rw [List.getElem?_drop] at h2
  simp only [World.cell?, h, Option.isSome_none, Bool.false_eq_true, if_false]
  rw [← Array.getElem?_toList, Nat.add_assoc]; exact h2
def iA : It := ⟨⟨#[97]⟩, 20, 11, false⟩
def iB : It := ⟨⟨#[98]⟩, 20, 11, false⟩
def iC : It := ⟨⟨#[99]⟩, 9, 10, false⟩
def iD : It := ⟨⟨#[100]⟩, 50, 99, true⟩
def iE : It := ⟨⟨#[101]⟩, 21, 12, false⟩
theorem i_ok : ∀ x ∈ [iB, iA, iC, iD, iE], x.ok := by
  intro x hx
  simp only [List.mem_cons, List.not_mem_nil, or_false] at hx
  rcases hx with rfl | rfl | rfl | rfl | rfl <;> (unfold It.ok; decide)
theorem fx_next3 : nextTo 12 [iB, iA, iC] = (8, true) := by kernel_rfl
theorem fx_next1 : nextTo 12 [iC] = (0, false) := by kernel_rfl
theorem fx_due : (dueI 8 12 [iB, iA, iC, iD, iE]).map It.ch = [⟨#[97]⟩, ⟨#[98]⟩, ⟨#[100]⟩] := by kernel_rfl
theorem fx_due3 : (dueI 8 12 [iB, iA, iC, iD, iE]).length = 3 := by kernel_rfl

/-- the five items' cells -/
def fxCells : Array Value := #[.string ⟨#[98]⟩, .int .i64 20, .int .u64 11, .bool false, .string ⟨#[97]⟩, .int .i64 20, .int .u64 11, .bool false, .string ⟨#[99]⟩, .int .i64 9, .int .u64 10, .bool false, .string ⟨#[100]⟩, .int .i64 50, .int .u64 99, .bool true, .string ⟨#[101]⟩, .int .i64 21, .int .u64 12, .bool false]
theorem fx_sl5 {w : World} {g B : Nat} {e : TypeId} (h : w.heap[g]? = some (.cells fxCells e (0, 0))) (hg : g < B) : Sl w B 4 It.cells (some ⟨g, 0, none⟩) [iB, iA, iC, iD, iE] := Sl.of_block (rest := []) It.cells_len h hg rfl
theorem fx_sl3 {w : World} {g B : Nat} {e : TypeId} (h : w.heap[g]? = some (.cells fxCells e (0, 0))) (hg : g < B) : Sl w B 4 It.cells (some ⟨g, 0, none⟩) [iB, iA, iC] := Sl.of_block (rest := [iD, iE].flatMap It.cells) It.cells_len h hg rfl
theorem fx_sl1 {w : World} {g B : Nat} {e : TypeId} (h : w.heap[g]? = some (.cells fxCells e (0, 0))) (hg : g < B) : Sl w B 4 It.cells (some ⟨g, 8, none⟩) [iC] := Sl.of_block (rest := [iD, iE].flatMap It.cells) It.cells_len h hg rfl

theorem fx_m1 (w : World) : Calls Try.prog 9 #[.int .i64 3, .int .i64 4, .int .i64 2] w fun e w' => e = .returned (.tuple #[.int .i64 12, .int .i64 0]) ∧ Below w.heap.size w w' := sMargin 3 4 2 w
theorem fx_m2 (w : World) : Calls Try.prog 9 #[.int .i64 0, .int .i64 4, .int .i64 2] w fun e w' => e = .returned (.tuple #[.int .i64 0, .int .i64 1]) ∧ Below w.heap.size w w' := sMargin 0 4 2 w
theorem fx_n3 (g : Nat) (e0 : TypeId) (w : World) (h : w.heap[g]? = some (.cells fxCells e0 (0, 0))) : Calls Try.prog 11 #[.slice (some ⟨g, 0, none⟩) 3 5, .int .i64 12] w fun e w' => e = .returned (.tuple #[.int .i64 8, .bool true]) ∧ Below w.heap.size w w' := by
  have := sNext (some ⟨g, 0, none⟩) [iB, iA, iC] 5 12 w (by simp) (fun x hx => i_ok x (List.mem_of_mem_take (i := 3) hx)) (by omega) (by omega) (fx_sl3 h (Array.getElem?_eq_some_iff.1 h).1)
  rw [fx_next3] at this; exact this
theorem fx_n1 (g c : Nat) (e0 : TypeId) (w : World) (h : w.heap[g]? = some (.cells fxCells e0 (0, 0))) : Calls Try.prog 11 #[.slice (some ⟨g, 8, none⟩) 1 c, .int .i64 12] w fun e w' => e = .returned (.tuple #[.int .i64 0, .bool false]) ∧ Below w.heap.size w w' := by
  have := sNext (some ⟨g, 8, none⟩) [iC] c 12 w (by simp) (fun x hx => i_ok x (by simp at hx; subst hx; simp)) (by omega) (by omega) (fx_sl1 h (Array.getElem?_eq_some_iff.1 h).1)
  rw [fx_next1] at this; exact this
def names3 : List ByteArray := [⟨#[97]⟩, ⟨#[98]⟩, ⟨#[100]⟩]
theorem fx_d (g : Nat) (e0 : TypeId) (w : World) (h : w.heap[g]? = some (.cells fxCells e0 (0, 0))) : Calls Try.prog 17 #[.slice (some ⟨g, 0, none⟩) 5 5, .int .i64 8, .int .i64 12] w fun e w' => ∃ A c, e = .returned (.slice A 3 c) ∧ Sl w' w'.heap.size 1 strC A names3 ∧ Below w.heap.size w w' := by
  have := sDue (some ⟨g, 0, none⟩) [iB, iA, iC, iD, iE] 5 8 12 w (by simp) i_ok (by omega) (by omega) (fx_sl5 h (Array.getElem?_eq_some_iff.1 h).1)
  rw [fx_due3, fx_due] at this
  refine this.mono ?_
  rintro e w' ⟨v, rfl, hown, hb⟩
  obtain ⟨A, c, rfl⟩ := own_form hown
  exact ⟨A, c, rfl, Sl.of_own (l := names3) (fun _ => rfl) hown, hb⟩
theorem fx_s (A : Option Addr) (c g : Nat) (e0 : TypeId) (w : World) (hA : Sl w w.heap.size 1 strC A names3) (h : w.heap[g]? = some (.cells #[.string ⟨#[97]⟩, .string ⟨#[98]⟩, .string ⟨#[100]⟩] e0 (0, 0))) :
    Calls Try.prog 16 #[.slice A 3 c, .slice (some ⟨g, 0, none⟩) 3 3] w fun e w' => e = .returned (.bool true) ∧ ∃ n, w' = w.drewN n := by
  have := same_eq A (some ⟨g, 0, none⟩) names3 names3 c 3 w rfl (by simp [names3]) hA (Sl.of_block (enc := strC) (l := names3) (off := 0) (rest := []) (fun _ => rfl) h (Array.getElem?_eq_some_iff.1 h).1 rfl)
  rw [decide_eq_true rfl] at this; exact this

set_option maxRecDepth 100000 in
set_option maxHeartbeats 2000000 in
theorem fixed_any (w : World) : Calls Try.prog 19 #[] w fun e w' => e = .returned (.bool true) ∧ Below w.heap.size w w' := by
  go_enter Try.func19, Try.ntmps19
  go_wp2_with fail
  refine (fx_m1 _).mono ?_
  rintro e w1 ⟨rfl, hb1⟩
  go_wp2_with fail
  refine (fx_m2 _).mono ?_
  rintro e w2 ⟨rfl, hb2⟩
  go_wp2_with fail
  refine (fx_n3 w2.heap.size 37 _ (heap_alloc_new w2 _)).mono ?_
  rintro e w3 ⟨rfl, hb3⟩
  have H3 : Hid (w3.heap[w2.heap.size]? = some (.cells fxCells 37 (0, 0))) := (hb3.block w2.heap.size (by simp)).trans (heap_alloc_new w2 _)
  have b3 : Below w2.heap.size w2 w3 := ((Below.refl _ _).alloc (Nat.le_refl _) _).trans (hb3.mono (by simp))
  clear hb3
  have l3 : w2.heap.size < w3.heap.size := (Array.getElem?_eq_some_iff.1 H3.out).1
  go_wp2_with fail
  refine (fx_n1 w2.heap.size _ 37 _ H3.out).mono ?_
  rintro e w4 ⟨rfl, hb4⟩
  have H4 : Hid (w4.heap[w2.heap.size]? = some (.cells fxCells 37 (0, 0))) := (hb4.block w2.heap.size l3).trans H3.out
  have b4 : Below w2.heap.size w2 w4 := b3.trans (hb4.mono (by omega))
  clear hb4 b3
  go_wp2_with fail
  refine (sDeadline 20 12 _ (by omega) (by omega) (by omega) (by omega)).mono ?_
  rw [show deadl 20 12 = 8 from rfl]
  rintro e w' ⟨rfl, rfl⟩
  go_wp2_with fail
  refine (sDeadline 5 12 _ (by omega) (by omega) (by omega) (by omega)).mono ?_
  rw [show deadl 5 12 = 0 from rfl]
  rintro e w' ⟨rfl, rfl⟩
  go_wp2_with fail
  refine (sLate 8 20 12 _ (by omega) (by omega) (by omega) (by omega)).mono ?_
  rw [show decide (deadl 20 12 ≤ 8) = true from rfl]
  rintro e w' ⟨rfl, rfl⟩
  go_wp2_with fail
  refine (sLate 7 20 12 _ (by omega) (by omega) (by omega) (by omega)).mono ?_
  rw [show decide (deadl 20 12 ≤ 7) = false from rfl]
  rintro e w' ⟨rfl, rfl⟩
  go_wp2_with fail
  refine (fx_d w2.heap.size 37 _ H4.out).mono ?_
  rintro e w5 ⟨A, c, rfl, hs5, hb5⟩
  have b5 : Below w2.heap.size w2 w5 := b4.trans (hb5.mono b4.size)
  have hs5' := (hs5.alloc (Nat.le_refl _) (.cells #[.string ⟨#[97]⟩, .string ⟨#[98]⟩, .string ⟨#[100]⟩] 9)).more (B' := (w5.alloc (.cells #[.string ⟨#[97]⟩, .string ⟨#[98]⟩, .string ⟨#[100]⟩] 9)).heap.size) (by simp)
  clear hb5 b4 hs5
  go_wp2_with fail
  refine (fx_s A c w5.heap.size 9 _ hs5' (heap_alloc_new w5 _)).mono ?_
  rintro e w6 ⟨rfl, n, rfl⟩
  have b6 := below_drewN (b5.alloc b5.size (.cells #[.string ⟨#[97]⟩, .string ⟨#[98]⟩, .string ⟨#[100]⟩] 9)) n
  go_wp2_with fail
  refine (sHolds 8 9 12 2 14 _ (by omega) (by omega) (by omega) (by omega) (by omega) (by omega) (by omega) (by omega)).mono ?_
  rw [show decide ((8 : Int) ≤ 9 ∧ (9 : Int) ≤ 12 ∧ (12 : Int) + 2 - 1 < 14) = true from rfl]
  rintro e w' ⟨rfl, rfl⟩
  go_wp2_with fail
  refine (sHolds 8 9 13 2 14 _ (by omega) (by omega) (by omega) (by omega) (by omega) (by omega) (by omega) (by omega)).mono ?_
  rw [show decide ((8 : Int) ≤ 9 ∧ (9 : Int) ≤ 13 ∧ (13 : Int) + 2 - 1 < 14) = false from rfl]
  rintro e w' ⟨rfl, rfl⟩
  go_wp2_with fail
  refine (sHolds 9 8 12 2 14 _ (by omega) (by omega) (by omega) (by omega) (by omega) (by omega) (by omega) (by omega)).mono ?_
  rw [show decide ((9 : Int) ≤ 8 ∧ (8 : Int) ≤ 12 ∧ (12 : Int) + 2 - 1 < 14) = false from rfl]
  rintro e w' ⟨rfl, rfl⟩
  go_wp2_with fail
  go_ret
  exact ⟨rfl, hb1.trans ((hb2.trans (b6.mono hb2.size)).mono hb1.size)⟩
end Go.Proofs.Ytnkbdkpeoaobeaa
