/- sdk.Back without a channel. coin: a transaction of one input and one output: what each part may be. coin.Right of a transaction of one input and one output. claim: from, look, for one entry. slices.Clone of one input, of one output, of no wins. slices.Clone of offers. A block of cells of a type; rows of other types stay where blocks of one are changed. -/
import Derived.Outline
import Derived.MapKept
import Derived.Laws.Entries
import Derived.OwnWalk
import Derived.Defers
import Derived.Lib.SliceRun
import Derived.Lib.OwnKind
import Derived.Deep.RegionHeld3
import Derived.Test.YtpbcfeghfcodcaaGreatMgChA
import Derived.Test.YtpbcfeghfcodcaaGreatMgNote
import Derived.Test.YtpbcfeghfcodcaaGreatMgNum
import Derived.Test.YtpbcfeghfcodcaaGreatMgSdkB
import Derived.Test.YtpbcfeghfcodcaaGreatMgWor
set_option linter.unusedVariables false
set_option linter.unusedSimpArgs false
namespace Go.Proofs.YtpbcfeghfcodcaaGreat
open Go.RowKit Go.Maps
def zTx : Array Value := #[.slice none 0 0, .slice none 0 0, .int .u64 0, .string ByteArray.empty, .string ByteArray.empty, .slice none 0 0]
theorem zTx_one : zTx.all (·.oneCell') = true := by
  rw [Array.all_eq_true']
  intro x hx
  simp only [zTx, List.mem_toArray, List.mem_cons, List.not_mem_nil, or_false] at hx
  rcases hx with rfl | rfl | rfl | rfl | rfl | rfl <;> rfl
theorem zTx_over : over zTx 0 zTx.toList = zTx := (over_full zTx.toList zTx rfl).trans (Array.toArray_toList ..)
variable {w : World} {cb h n i : Nat} {seed : ByteArray}
end Go.Proofs.YtpbcfeghfcodcaaGreat
namespace Go.Proofs.YtpbcfeghfcodcaaGreat
open Go.RowKit Go.Maps
def payC (am : Nat) (key : ByteArray) : Array Value := #[.int .i64 1, .int .u64 (am : Nat), .string key, .string ByteArray.empty, .int .i64 0, .string ByteArray.empty, .int .u64 0, .int .i64 0, .string ByteArray.empty]
def inC (tx : ByteArray) (out path : Nat) (sig : ByteArray) : Array Value := #[.string tx, .int .i64 (out : Nat), .int .i64 (path : Nat), .string sig]
theorem infoOutC : (Tryz.prog.info? 26).map (·.size) = some 9 := by kernel_rfl
theorem inC_one (tx : ByteArray) (out path : Nat) (sig : ByteArray) : (inC tx out path sig).all (·.oneCell') = true := by
  rw [Array.all_eq_true']
  intro x hx
  simp only [inC, List.mem_toArray, List.mem_cons, List.not_mem_nil, or_false] at hx
  rcases hx with rfl | rfl | rfl | rfl <;> rfl
theorem payC_one (am : Nat) (key : ByteArray) : (payC am key).all (·.oneCell') = true := by
  rw [Array.all_eq_true']
  intro x hx
  simp only [payC, List.mem_toArray, List.mem_cons, List.not_mem_nil, or_false] at hx
  rcases hx with rfl | rfl | rfl | rfl | rfl | rfl | rfl | rfl | rfl <;> rfl
set_option maxRecDepth 100000 in
set_option maxHeartbeats 2000000 in
theorem fits_pay (am : Nat) (key : ByteArray) (w : World) (h1 : 0 < am) (h2 : key.size = 16) :
    Calls Tryz.prog 46 #[.agg (payC am key)] w fun e w' => e = .returned (.bool true) ∧ Below w.heap.size w w' := by
  have d1 : decide ((0 : Int) < am) = true := decide_eq_true (by omega)
  have d2 : ((key.size : Int) == 16) = true := by simp; omega
  unfold payC
  go_enter Tryz.func46, Tryz.ntmps46
  go_wp2
  go_ret
  refine ⟨rfl, ?_⟩
  repeat (first | exact Below.refl _ _ | refine Below.setCell ?_ (by simp) _ | refine Below.alloc ?_ (by simp <;> omega) _ | refine Below.drew ?_)
set_option maxRecDepth 100000 in
set_option maxHeartbeats 2000000 in
theorem nright_zero (w : World) :
    Calls Tryz.prog 19 #[.agg #[.int .u64 0, .string ByteArray.empty, .string ByteArray.empty, .slice none 0 0]] w fun e w' => e = .returned (.bool true) ∧ Below w.heap.size w w' := by
  go_enter Tryz.func19, Tryz.ntmps19
  go_wp2_with fail
  refine wp_loop_rounds 1 ?_
  rw [rounds_succ]
  go_wp2
  go_ret
  refine ⟨rfl, ?_⟩
  repeat (first | exact Below.refl _ _ | refine Below.setCell ?_ (by simp) _ | refine Below.alloc ?_ (by simp <;> omega) _ | refine Below.drew ?_)
def Outs1 (w : World) (g : Nat) (am : Nat) (key : ByteArray) : Prop := ∃ cur, Blk w g 26 cur ∧ cur.extract 0 (0 + 9) = payC am key ∧ 0 + 9 ≤ cur.size
theorem Outs1.bel {w w' : World} {g am : Nat} {key : ByteArray} (h : Outs1 w g am key) (hb : Below w.heap.size w w') : Outs1 w' g am key := by
  obtain ⟨cur, h1, h2⟩ := h
  exact ⟨cur, h1.bel hb, h2⟩
def txC (gi ci go co : Nat) : Array Value := #[.slice (some ⟨gi, 0, none⟩) 1 ci, .slice (some ⟨go, 0, none⟩) 1 co, .int .u64 0, .string ByteArray.empty, .string ByteArray.empty, .slice none 0 0]
theorem txC_one (gi ci go co : Nat) : (txC gi ci go co).all (·.oneCell') = true := by
  rw [Array.all_eq_true']
  intro x hx
  simp only [txC, List.mem_toArray, List.mem_cons, List.not_mem_nil, or_false] at hx
  rcases hx with rfl | rfl | rfl | rfl | rfl | rfl <;> rfl
end Go.Proofs.YtpbcfeghfcodcaaGreat
namespace Go.Proofs.YtpbcfeghfcodcaaGreat
open Go.RowKit Go.Maps
/-- a struct is read, where the operation is guarded and wanted -/
theorem wpList_load_blkG {ops : Array Oper} {rest : List Oper} {o : Oper} {a : Act} {w : World} {Q : Exit → Act → World → Prop} (hw : Region.wanted o (yielded ops a.tmps) = true) (ty : TypeId) (x : Operand) (ho : o.op = .load ty x)
    (g off n : Nat) {t : TypeId} {cs : Array Value} {fs : Array Field} (hb : Blk w g t cs) (part : Array Value) (hx : a.eval x = .pointer (some ⟨g, off, none⟩)) (hp : cs.extract off (off + n) = part)
    (hu : Tryz.prog.underlying ty = some (.struct fs)) (hi : (Tryz.prog.info? ty).map (·.size) = some n) (hn : off + n ≤ cs.size)
    (h : wpList Tryz.prog ops Q rest (a.put o.dst (.agg part)) w) : wpList Tryz.prog ops Q (o :: rest) a w := by
  subst hp
  refine wpList_step fun K hK => ?_
  rw [if_pos hw]
  refine wp_load_mid ty x ho g off hx (cs.extract off (off + n)).toList _ (World.rangeAt_of_block (w := w) (b := g) (C := cs) (t := t) (fr := (0, 0)) hb off n) hu rfl (by rw [hi]; simp; omega) (hK _ _ ?_)
  rw [Array.toArray_toList]
  exact h
theorem ck_pnt (b : Bool) (tx : ByteArray) (out : Int) (W : World) : (Instr.checkKey b 10000 23 (.agg #[.string tx, .int .i64 out])).run Tryz.prog W = .ok () W := by kernel_rfl
theorem fk_none (k : Value) (W : World) : (Instr.findKey 23 k []).run Tryz.prog W = .ok none W := by kernel_rfl
theorem zeroB (W : World) : (zeroValue 4).run Tryz.prog W = .ok (.bool false) W := by kernel_rfl
theorem gobj {g c : Nat} {es : Array MapEntry} {W : World} (h : W.heap[g]? = some (.map es c)) : (getObj g).run Tryz.prog W = .ok (.map es c) W := by simp [getObj, Sem.run, h]
theorem within_one (w : World) : Calls Tryz.prog 81 #[.int .i64 1, .int .i64 1, .int .i64 4] w fun e w' => e = .returned (.bool true) ∧ w = w' := by
  go_enter Tryz.func81, Tryz.ntmps81
  go_wp2
  go_ret
  exact ⟨rfl, rfl⟩
end Go.Proofs.YtpbcfeghfcodcaaGreat
namespace Go.Proofs.YtpbcfeghfcodcaaGreat
open Go.RowKit Go.Maps
def Ent1 (w : World) (g : Nat) (tx : ByteArray) (out : Nat) (l : Lk) : Prop := ∃ cur, Blk w g 28 cur ∧ cur.extract 0 (0 + 11) = entC tx out l ∧ 0 + 11 ≤ cur.size
theorem Ent1.bel {w w' : World} {g out : Nat} {tx : ByteArray} {l : Lk} (h : Ent1 w g tx out l) (hb : Below w.heap.size w w') : Ent1 w' g tx out l := by
  obtain ⟨cur, h1, h2⟩ := h
  exact ⟨cur, h1.bel hb, h2⟩
theorem own_nil (w : World) (base : Nat) (e : TypeId) (k : Nat) : w.ownsRow base e k (.slice none 0 0) 0 [] := ⟨by simp, .inl ⟨rfl, rfl⟩⟩
/-- a row of the call's own of one struct, as a block -/
theorem own_one {w : World} {base k : Nat} {e : TypeId} {v : Value} {cs : Array Value} (h : w.ownsRow base e k v 1 cs.toList) (hk : cs.size = k) : ∃ g c cur, v = .slice (some ⟨g, 0, none⟩) 1 c ∧ base ≤ g ∧ Blk w g e cur ∧ cur.extract 0 (0 + k) = cs ∧ 0 + k ≤ cur.size := by
  obtain ⟨_, h | ⟨g, cap, cur, rfl, h1, h2, h3, h4, h5, h6⟩⟩ := h
  · omega
  · have : k ≤ cap * k := Nat.le_mul_of_pos_left k (by omega)
    refine ⟨g, cap, cur, rfl, h1, h2, ?_, by omega⟩
    apply Array.ext'
    rw [← h6, Array.toList_extract, Nat.one_mul, Nat.zero_add]
    simp [List.extract_eq_take_drop]
theorem entC_one (tx : ByteArray) (out : Nat) (l : Lk) : (entC tx out l).all (·.oneCell') = true := by
  rw [Array.all_eq_true']
  intro x hx
  simp only [entC, List.mem_toArray, List.mem_cons, List.not_mem_nil, or_false] at hx
  rcases hx with rfl | rfl | rfl | rfl | rfl | rfl | rfl | rfl | rfl | rfl | rfl <;> rfl
def zEnt : Array Value := #[.string ByteArray.empty, .int .i64 0, .int .i64 0, .int .u64 0, .string ByteArray.empty, .string ByteArray.empty, .int .i64 0, .string ByteArray.empty, .int .u64 0, .int .i64 0, .string ByteArray.empty]
theorem one_all {cs : Array Value} (h : cs.all (·.oneCell') = true) : ∀ u ∈ cs.toList, u.oneCell' = true := by
  rw [Array.all_eq_true'] at h
  intro u hu
  exact h u (by simpa using hu)
end Go.Proofs.YtpbcfeghfcodcaaGreat
namespace Go.Proofs.YtpbcfeghfcodcaaGreat
open Go.RowKit Go.Maps
theorem Tryz.infoOut9 : (Tryz.prog.info? 26).map (fun i => (i.zero, i.size, i.bytes)) = some (some (.agg #[.int .i64 0, .int .u64 0, .string ByteArray.empty, .string ByteArray.empty, .int .i64 0, .string ByteArray.empty, .int .u64 0, .int .i64 0, .string ByteArray.empty]), 9, 104) := by kernel_rfl
theorem ext_news {w : World} {g k : Nat} {t : TypeId} {cur cs : Array Value} (h : Blk w g t cur) (he : cur.extract 0 (0 + k) = cs) : ∀ j u, cs.toList[j]? = some u → w.cell? ((⟨g, 0, none⟩ : Addr).add j) = some u := by
  intro j u hu
  subst he
  rw [addr_add0, h.cell]
  simp only [Array.getElem?_toList, Array.getElem?_extract, Nat.zero_add] at hu
  split at hu
  · exact hu
  · cases hu
set_option maxHeartbeats 400000 in
theorem clone_none (w : World) :
    Calls Tryz.prog 74 #[.slice none 0 0] w fun e w' => e = .returned (.slice none 0 0) ∧ w' = w := by
  have qT : ∀ (w : World) (a : Option Addr) (n c n' c' : Nat), (binOp .eql 31 (.slice a n c) (.slice none n' c')).run Tryz.prog w = .ok (.bool a.isNone) w := fun w a n c n' c' => Lib.run_eql_slice_nil w _ _ a n c n' c' Tryz.underlying31
  go_enter Tryz.func74, Tryz.ntmps74
  go_wp2
  go_ret
  exact ⟨rfl, rfl⟩
end Go.Proofs.YtpbcfeghfcodcaaGreat
namespace Go.Proofs.YtpbcfeghfcodcaaGreat
open Go.RowKit Go.Maps
theorem addr_addA (b o i : Nat) : ((⟨b, o, none⟩ : Addr).add i) = ⟨b, o + i, none⟩ := by unfold Addr.add; split <;> simp_all
theorem own_noneC {w : World} {base size n m c : Nat} {e : TypeId} {xs : List Value} (h : w.ownsRow base e size (.slice none m c) n xs) : c = 0 := by
  obtain ⟨_, h | ⟨g, cap, cur, hv, _⟩⟩ := h
  · obtain ⟨hv, _⟩ := h
    injection hv with _ _ hc
  · injection hv with hv; cases hv
theorem ofcl_len (o : Of) : o.cl.length = 9 := rfl
theorem ofcl_one (o : Of) : ∀ u ∈ o.cl, u.oneCell' = true := by
  intro u hu
  have := ofcs_one o
  rw [Array.all_eq_true'] at this
  exact this u (by simpa [Of.cl] using hu)
theorem flat_one (l : List Of) : ∀ u ∈ l.flatMap Of.cl, u.oneCell' = true := by
  intro u hu
  obtain ⟨o, _, ho⟩ := List.mem_flatMap.1 hu
  exact ofcl_one o u ho
/-- the cells of a slice that reads as a list, in a row -/
theorem flat_at {α : Type} (enc : α → List Value) (k : Nat) (hk : ∀ x, (enc x).length = k) : ∀ (l : List α) (j : Nat) (u : Value), (l.flatMap enc)[j]? = some u → ∃ i x q, l[i]? = some x ∧ (enc x)[q]? = some u ∧ j = i * k + q
  | [], j, u, h => by simp at h
  | y :: r, j, u, h => by
    rw [List.flatMap_cons] at h
    by_cases hj : j < (enc y).length
    · rw [List.getElem?_append_left hj] at h
      exact ⟨0, y, j, rfl, h, by omega⟩
    · rw [List.getElem?_append_right (by omega)] at h
      obtain ⟨i, x, q, h1, h2, h3⟩ := flat_at enc k hk r _ u h
      rw [hk y] at h3 hj
      exact ⟨i + 1, x, q, by simpa using h1, h2, by rw [Nat.add_mul]; omega⟩
end Go.Proofs.YtpbcfeghfcodcaaGreat
namespace Go.Proofs.YtpbcfeghfcodcaaGreat
open Go.RowKit
theorem wpAnyH_genT {P : Program} {md : Region.Mode} {ops : Array Oper} {Q : Exit → Act → World → Prop} {S : World → Prop} {fuel : Nat} {listed : Array Bool} {a : Act} {w : World} (h : ∀ W, W = w → wpAnyH P md ops Q S fuel listed a W) : wpAnyH P md ops Q S fuel listed a w := h w rfl
/-- a block of cells of a type -/
def KdT (w : World) (g : Nat) (t : TypeId) : Prop := ∃ c fz, w.heap[g]? = some (.cells c t fz)
theorem Blk.kdT {w : World} {g : Nat} {t : TypeId} {cs : Array Value} (h : Blk w g t cs) : KdT w g t := ⟨cs, _, h⟩
theorem KdT.ne_ {w : World} {g g' : Nat} {t t' : TypeId} (h : KdT w g t) (h' : KdT w g' t') (hne : t ≠ t') : g ≠ g' := by
  rintro rfl
  obtain ⟨c, fz, h⟩ := h
  obtain ⟨c', fz', h'⟩ := h'
  rw [h] at h'
  injection h' with h'
  injection h' with _ h'
  exact hne h'
theorem KdT.own_ne {w : World} {g base size n : Nat} {t e : TypeId} {v : Value} {xs : List Value} (h : KdT w g t) (ho : w.ownsRow base e size v n xs) (hne : t ≠ e) : ∀ b, v.ownBlock = some b → b ∉ [g] := by
  intro b hb hm
  obtain ⟨c, fz, hk⟩ := Lib.ownsRow_kind ho b hb
  simp at hm
  subst hm
  exact h.ne_ ⟨c, fz, hk⟩ hne rfl
/-- a row stays, where one block of another type is changed -/
theorem own_chT {g : Nat} {w w' : World} {base n size : Nat} {t e : TypeId} {v : Value} {xs : List Value} (h : w.ownsRow base e size v n xs) (hc : Ch [g] w w') (hg : KdT w g t) (hne : t ≠ e) : w'.ownsRow base e size v n xs :=
  Ch.owns hc h (hg.own_ne h hne)
theorem own_belT {w w' : World} {base n size : Nat} {e : TypeId} {v : Value} {xs : List Value} (h : w.ownsRow base e size v n xs) (hb : Below w.heap.size w w') : w'.ownsRow base e size v n xs :=
  Ch.owns (Ch.of_below hb []) h (by simp)
end Go.Proofs.YtpbcfeghfcodcaaGreat
