/- draw.Top, Fair; lottery's room. sdk.Back without a channel. coin: a transaction of one input and one output: what each part may be. coin.Right of a transaction of one input and one output. claim: from, look, for one entry. slices.Clone of one input, of one output, of no wins. coin.Core of a transaction of one input and one output. slices.Clone of offers. A block of cells of a type; rows of other types stay where blocks of one are changed. -/
import Derived.Outline
import Derived.MapKept
import Derived.Laws.Entries
import Derived.OwnWalk
import Derived.Defers
import Derived.Lib.SliceRun
import Derived.Lib.OwnKind
import Derived.Deep.RegionHeld3
import Derived.Test.YtjcinncphffgaaaGreatMiG15
import Derived.Test.YtjcinncphffgaaaGreatMiG22
import Derived.Test.YtjcinncphffgaaaGreatMiNote
import Derived.Test.YtjcinncphffgaaaGreatMiNum
import Derived.Test.YtjcinncphffgaaaGreatMiSdkA
set_option linter.unusedVariables false
set_option linter.unusedSimpArgs false
namespace Go.Proofs.YtjcinncphffgaaaGreat
section
open Go.RowKit
end
section
open Go.RowKit Go.Maps
theorem infoTx : (Tryz.prog.info? 53).map (·.size) = some 6 := by kernel_rfl
def zTx : Array Value := #[.slice none 0 0, .slice none 0 0, .int .u64 0, .string ByteArray.empty, .string ByteArray.empty, .slice none 0 0]
theorem zTx_one : zTx.all (·.oneCell') = true := by
 rw [Array.all_eq_true']
 intro x hx
 simp only [zTx, List.mem_toArray, List.mem_cons, List.not_mem_nil, or_false] at hx
 rcases hx with rfl | rfl | rfl | rfl | rfl | rfl <;> rfl
theorem zTx_over : over zTx 0 zTx.toList = zTx := (over_full zTx.toList zTx rfl).trans (Array.toArray_toList ..)
variable {w : World} {cb h n i : Nat} {seed : ByteArray}
end
section
open Go.RowKit Go.Maps
def inC (tx : ByteArray) (out path : Nat) (sig : ByteArray) : Array Value := #[.string tx, .int .i64 (out : Nat), .int .i64 (path : Nat), .string sig]
theorem infoIn : (Tryz.prog.info? 59).map (·.size) = some 4 := by kernel_rfl
end
section
open Go.RowKit Go.Maps
/-- a struct is read, where the operation is guarded and wanted -/
theorem wpList_load_blkG {ops : Array Oper} {rest : List Oper} {o : Oper} {a : Act} {w : World} {Q : Exit → Act → World → Prop} (hw : Region.wanted o (yielded ops a.tmps) = true) (ty : TypeId) (x : Operand) (ho : o.op = .load ty x)
  (g off n : Nat) {t : TypeId} {cs : Array Value} {fs : Array Field} (hb : Blk w g t cs) (part : Array Value) (hx : a.eval x = .pointer (some ⟨g, off, none⟩)) (hp : cs.extract off (off + n) = part)
  (hu : Tryz.prog.underlying ty = some (.struct fs)) (hi : (Tryz.prog.info? ty).map (·.size) = some n) (hn : off + n ≤ cs.size)
  (h : wpList Tryz.prog ops Q rest (a.put o.dst (.agg part)) w) : wpList Tryz.prog ops Q (o :: rest) a w := by
 subst hp
 refine wpList_step fun K hK => ?_
 rw [if_pos hw]
 refine wp_load_mid ty x ho g off hx (cs.extract off (off + n)).toList _ (World.rangeAt_of_block (w := w) (b := g) (C := cs) (t := t) (fr := (0, 0)) hb off n) hu rfl (by rw [hi]; simp; omega) (hK _ _ ?_)
 rw [Array.toArray_toList]
 exact h
end
section
open Go.RowKit Go.Maps
theorem Tryz.infoIn4 : (Tryz.prog.info? 59).map (fun i => (i.zero, i.size, i.bytes)) = some (some (.agg (inC ByteArray.empty 0 0 ByteArray.empty)), 4, 48) := by kernel_rfl
theorem own_nil (w : World) (base : Nat) (e : TypeId) (k : Nat) : w.ownsRow base e k (.slice none 0 0) 0 [] := ⟨by simp, .inl ⟨rfl, rfl⟩⟩
def zEnt : Array Value := #[.string ByteArray.empty, .int .i64 0, .int .i64 0, .int .u64 0, .string ByteArray.empty, .string ByteArray.empty, .int .i64 0, .string ByteArray.empty, .int .u64 0, .int .i64 0, .string ByteArray.empty]
theorem one_all {cs : Array Value} (h : cs.all (·.oneCell') = true) : ∀ u ∈ cs.toList, u.oneCell' = true := by
 rw [Array.all_eq_true'] at h
 intro u hu
 exact h u (by simpa using hu)
end
section
open Go.RowKit Go.Maps
theorem Tryz.infoOut9 : (Tryz.prog.info? 81).map (fun i => (i.zero, i.size, i.bytes)) = some (some (.agg #[.int .i64 0, .int .u64 0, .string ByteArray.empty, .string ByteArray.empty, .int .i64 0, .string ByteArray.empty, .int .u64 0, .int .i64 0, .string ByteArray.empty]), 9, 104) := by kernel_rfl
end
section
open Go.RowKit Go.Maps
end
section
open Go.RowKit Go.Maps
theorem addr_addA (b o i : Nat) : ((⟨b, o, none⟩ : Addr).add i) = ⟨b, o + i, none⟩ := by unfold Addr.add; split <;> simp_all
theorem own_noneC {w : World} {base size n m c : Nat} {e : TypeId} {xs : List Value} (h : w.ownsRow base e size (.slice none m c) n xs) : c = 0 := by
 obtain ⟨_, h | ⟨g, cap, cur, hv, _⟩⟩ := h
 ·obtain ⟨hv, _⟩ := h
  injection hv with _ _ hc
 ·injection hv with hv; cases hv
/-- the cells of a slice that reads as a list, in a row -/
theorem flat_at {α : Type} (enc : α → List Value) (k : Nat) (hk : ∀ x, (enc x).length = k) : ∀ (l : List α) (j : Nat) (u : Value), (l.flatMap enc)[j]? = some u → ∃ i x q, l[i]? = some x ∧ (enc x)[q]? = some u ∧ j = i * k + q
 | [], j, u, h => by simp at h
 | y :: r, j, u, h => by
  rw [List.flatMap_cons] at h
  by_cases hj : j < (enc y).length
  ·rw [List.getElem?_append_left hj] at h
   exact ⟨0, y, j, rfl, h, by omega⟩
  ·rw [List.getElem?_append_right (by omega)] at h
   obtain ⟨i, x, q, h1, h2, h3⟩ := flat_at enc k hk r _ u h
   rw [hk y] at h3 hj
   exact ⟨i + 1, x, q, by simpa using h1, h2, by rw [Nat.add_mul]; omega⟩
end
section
open Go.RowKit
theorem wpAnyH_genT {P : Program} {md : Region.Mode} {ops : Array Oper} {Q : Exit → Act → World → Prop} {S : World → Prop} {fuel : Nat} {listed : Array Bool} {a : Act} {w : World} (h : ∀ W, W = w → wpAnyH P md ops Q S fuel listed a W) : wpAnyH P md ops Q S fuel listed a w := h w rfl
/-- a block of cells of a type -/
def KdT (w : World) (g : Nat) (t : TypeId) : Prop := ∃ c fz, w.heap[g]? = some (.cells c t fz)
theorem Blk.kdT {w : World} {g : Nat} {t : TypeId} {cs : Array Value} (h : Blk w g t cs) : KdT w g t := ⟨cs, _, h⟩
theorem KdT.ne_ {w : World} {g g' : Nat} {t t' : TypeId} (h : KdT w g t) (h' : KdT w g' t') (hne : t ≠ t') : g ≠ g' := by
 rintro rfl
 obtain ⟨c, fz, h⟩ := h
 obtain ⟨c', fz', h'⟩ := h'
 rw [h] at h'
 injection h' with h'
 injection h' with _ h'
 exact hne h'
theorem KdT.own_ne {w : World} {g base size n : Nat} {t e : TypeId} {v : Value} {xs : List Value} (h : KdT w g t) (ho : w.ownsRow base e size v n xs) (hne : t ≠ e) : ∀ b, v.ownBlock = some b → b ∉ [g] := by
 intro b hb hm
 obtain ⟨c, fz, hk⟩ := Lib.ownsRow_kind ho b hb
 simp at hm
 subst hm
 exact h.ne_ ⟨c, fz, hk⟩ hne rfl
/-- a row stays, where one block of another type is changed -/
theorem own_chT {g : Nat} {w w' : World} {base n size : Nat} {t e : TypeId} {v : Value} {xs : List Value} (h : w.ownsRow base e size v n xs) (hc : Ch [g] w w') (hg : KdT w g t) (hne : t ≠ e) : w'.ownsRow base e size v n xs :=
 Ch.owns hc h (hg.own_ne h hne)
theorem own_belT {w w' : World} {base n size : Nat} {e : TypeId} {v : Value} {xs : List Value} (h : w.ownsRow base e size v n xs) (hb : Below w.heap.size w w') : w'.ownsRow base e size v n xs :=
 Ch.owns (Ch.of_below hb []) h (by simp)
end
end Go.Proofs.YtjcinncphffgaaaGreat
