/- Small words that all walks use: what a slice in memory reads as; endings. What a slice of uint32 reads as. Blocks that are known whole; maps of texts; what keeps them. Structs and arrays in a block that is known whole: read and written as one value. A region that draws its order and whose calls leave all that was there as it was: walked once, in the order of the text (Derived.Lib.QuietBelow); a part of a block is read in it. Plain words: products of 64 bits in halves, and division bit by bit. No program. num.Add, num.product, num.Mul. num.Sum. Plain words: division bit by bit. No program. num.divide. num.Rem, num.MulDiv, num.Of; draw.Nominal. draw.Nominal. Plain words: two texts, byte by byte, and their order. No program. Rows of the call's own: bytes, words, texts; to and from strings. num.Put. codec.Writer: Byte, Num, Blob, Hash, Text where nothing is wrong. note.Voucher, nums, Text. -/
import Derived.Test.YtjcinncphffgaaaGreatProg
import Derived.WalkKit
import Derived.WalkSpells
import Derived.WalkLawsBesides
import Derived.BigQuiet
import Derived.Deep.QuietTactic
import Derived.Lib.Hide
import Derived.Deep.LoopGhost
import Derived.Deep.AppendLies
import Derived.Deep.Draws
import Derived.Maps.AppendAt
import Derived.StillTailTactics
import Derived.Maps.OwnSet
import Derived.Maps.StringElems
import Derived.Deep.MidRow
import Derived.Laws.Rows
import Derived.Lib.QuietBelow
import Derived.Laws.BitsAllLaws
import Derived.Outline
import Derived.OwnWalk
import Derived.Laws.AppendOwn
import Derived.Maps.Ext
import Derived.Sort.KeysCollected
import Derived.Laws.BytesArg
import Derived.Lib.ConvBytes
import Derived.Laws.MakeOwn
set_option linter.unusedVariables false
set_option linter.unusedSimpArgs false
namespace Go.Proofs.YtjcinncphffgaaaGreat
open Go.RowKit

theorem ret_ii {k k' : IntKind} {a b c d : Int} (h : a = b) (h' : c = d) : Ending.returned (.tuple #[.int k a, .int k' c]) = .returned (.tuple #[.int k b, .int k' d]) := by rw [h, h']
theorem ret_bool {a b : Bool} (h : a = b) : Ending.returned (.bool a) = .returned (.bool b) := by rw [h]

/-- The slice with address A has the elements l, each of k cells, in a block below B. -/
def Sl {α : Type} (w : World) (B k : Nat) (enc : α → List Value) (A : Option Addr) (l : List α) : Prop :=
  l ≠ [] → ∃ b off, A = some ⟨b, off, none⟩ ∧ b < B ∧ ∀ i x, l[i]? = some x → ∀ j u, (enc x)[j]? = some u → w.cell? ⟨b, off + i * k + j, none⟩ = some u

section
variable {α : Type} {w w' : World} {B B' k : Nat} {enc : α → List Value} {A : Option Addr} {l : List α}
theorem Sl.nil (w : World) (B k : Nat) (enc : α → List Value) (A : Option Addr) : Sl w B k enc A [] := fun h => absurd rfl h
theorem Sl.keep (h : Sl w B k enc A l) (hk : ∀ p : Addr, p.block < B → w'.cell? p = w.cell? p) : Sl w' B k enc A l := fun hn => by
  obtain ⟨b, off, e, hb, hc⟩ := h hn
  exact ⟨b, off, e, hb, fun i x hx j u hu => (hk _ hb).trans (hc i x hx j u hu)⟩
theorem Sl.more (h : Sl w B k enc A l) (hB : B ≤ B') : Sl w B' k enc A l := fun hn => by
  obtain ⟨b, off, e, hb, hc⟩ := h hn
  exact ⟨b, off, e, by omega, hc⟩
theorem Sl.below (h : Sl w B k enc A l) (hb : Below B w w') : Sl w' B k enc A l := h.keep fun _ hp => hb.cell hp
/-- The cells of element i. -/
theorem Sl.at_ (h : Sl w B k enc A l) {i : Nat} (hi : i < l.length) : ∃ b off, A = some ⟨b, off, none⟩ ∧ b < B ∧ ∀ j u, (enc l[i])[j]? = some u → w.cell? ⟨b, off + i * k + j, none⟩ = some u := by
  obtain ⟨b, off, e, hb, hc⟩ := h (by intro h0; subst h0; simp at hi)
  exact ⟨b, off, e, hb, fun j u hu => hc i _ (List.getElem?_eq_getElem hi) j u hu⟩
end
theorem addr_add0 (b i : Nat) : ((⟨b, 0, none⟩ : Addr).add i) = ⟨b, i, none⟩ := by
  unfold Addr.add; split
  · next h => rw [h]
  · simp
theorem flatMap_get {α β : Type} (enc : α → List β) (k : Nat) (hk : ∀ x, (enc x).length = k) : ∀ (l : List α) (i j : Nat) (x : α) (u : β), l[i]? = some x → (enc x)[j]? = some u → (l.flatMap enc)[i * k + j]? = some u
  | [], _, _, _, _, h, _ => by simp at h
  | y :: r, 0, j, x, u, h, hu => by
    simp at h; subst h
    have : j < (enc y).length := (List.getElem?_eq_some_iff.1 hu).1
    simp only [List.flatMap_cons, Nat.zero_mul, Nat.zero_add]
    rw [List.getElem?_append_left this, hu]
  | y :: r, i + 1, j, x, u, h, hu => by
    simp at h
    have e := hk y
    simp only [List.flatMap_cons]
    rw [List.getElem?_append_right (by rw [e, Nat.add_mul]; omega), e, show (i + 1) * k + j - k = i * k + j by rw [Nat.add_mul]; omega]
    exact flatMap_get enc k hk r i j x u h hu
theorem flatMap_len {α β : Type} (enc : α → List β) (k : Nat) (hk : ∀ x, (enc x).length = k) (l : List α) : (l.flatMap enc).length = l.length * k := by
  induction l with
  | nil => simp
  | cons y r ih => simp only [List.flatMap_cons, List.length_append, ih, hk, List.length_cons, Nat.add_mul]; omega
/-- A row of the call's own reads as a slice. -/
theorem Sl.of_own {α : Type} {w : World} {base k n c : Nat} {e : TypeId} {enc : α → List Value} {A : Option Addr} {l : List α} (hk : ∀ x, (enc x).length = k) (h : w.ownsRow base e k (.slice A n c) l.length (l.flatMap enc)) : Sl w w.heap.size k enc A l := fun hn => by
  have hl : 0 < l.length := List.length_pos_iff.2 hn
  obtain ⟨g, cap, hv, _, hlt⟩ := h.form hl
  have hA : A = some ⟨g, 0, none⟩ := by injection hv
  subst hA
  refine ⟨g, 0, rfl, hlt, fun i x hx j u hu => ?_⟩
  have := h.cells (g := g) rfl (i * k + j) u (flatMap_get enc k hk l i j x u hx hu)
  rw [addr_add0] at this
  simpa using this
/- quiet calls behind draws (howto/extra-small, section 2) -/
theorem quiet_add {P : Program} {f : FuncId} {args : Array Value} {w : World} {a n : Nat} {v : Value}
    (h : Calls P f args (w.drewN (a + n)) fun e w' => e = .returned v ∧ ∃ m, w' = (w.drewN (a + n)).drewN m) :
    Calls P f args (w.drewN (a + n)) fun e w'' => e = .returned v ∧ ∃ m, w'' = w.drewN (a + m) :=
  h.mono fun _ _ ⟨he, m, hm⟩ => ⟨he, n + m, by rw [hm, World.drewN_drewN, Nat.add_assoc]⟩
/-- The cells of a block that was just made. -/
theorem news_alloc (w : World) (cs : Array Value) (e : TypeId) (news : List Value) (b : Nat) (h : cs.toList = news) (hb : b = w.heap.size) : ∀ j u, news[j]? = some u → (w.alloc (.cells cs e)).cell? ((⟨b, 0, none⟩ : Addr).add j) = some u := by
  intro j u hu
  subst hb h
  rw [addr_add0, World.cell?_alloc_at _ _ _ _ rfl]
  simpa using hu
end Go.Proofs.YtjcinncphffgaaaGreat
namespace Go.Proofs.YtjcinncphffgaaaGreat
end Go.Proofs.YtjcinncphffgaaaGreat
namespace Go.Proofs.YtjcinncphffgaaaGreat
open Go.RowKit Go.Maps
def Blk (w : World) (g : Nat) (t : TypeId) (cs : Array Value) : Prop := w.heap[g]? = some (.cells cs t (0, 0))
section
variable {w w' : World} {g : Nat} {t : TypeId} {cs : Array Value}
theorem Blk.lt (h : Blk w g t cs) : g < w.heap.size := (Array.getElem?_eq_some_iff.1 h).1
theorem Blk.cell (h : Blk w g t cs) (i : Nat) : w.cell? ⟨g, i, none⟩ = cs[i]? := by unfold Blk at h; simp [World.cell?, h]
theorem Blk.frozen (h : Blk w g t cs) (i : Nat) : w.frozen? ⟨g, i, none⟩ = false := by unfold Blk at h; simp [World.frozen?, h]
theorem Blk.new (w : World) (t : TypeId) (cs : Array Value) : Blk (w.alloc (.cells cs t)) w.heap.size t cs := heap_alloc_new w _
theorem Blk.drewN (h : Blk w g t cs) (n : Nat) : Blk (w.drewN n) g t cs := h
theorem Blk.alloc (h : Blk w g t cs) (o : Obj) : Blk (w.alloc o) g t cs := (Below.heap_alloc w o g h.lt).trans h
theorem Blk.set_ (h : Blk w g t cs) (i : Nat) (u : Value) : Blk (w.setCell ⟨g, i, none⟩ u) g t (cs.setIfInBounds i u) := by
  unfold Blk at h ⊢
  simp [World.setCell, Array.getElem?_modify, h]
theorem Blk.far (h : Blk w g t cs) {p : Addr} (hp : g ≠ p.block) (u : Value) : Blk (w.setCell p u) g t cs := (Below.heap_setCell w p u g hp).trans h
theorem Blk.below {B : Nat} (h : Blk w g t cs) (hb : Below B w w') (hg : g < B) : Blk w' g t cs := (hb.block g hg).trans h
theorem Blk.bel (h : Blk w g t cs) (hb : Below w.heap.size w w') : Blk w' g t cs := h.below hb h.lt
theorem Blk.grown {row : Option Nat} (h : Blk w g t cs) (hb : w.grownBy w' row) (hg : some g ≠ row) : Blk w' g t cs := (hb.block g h.lt hg).trans h
theorem Blk.ne_ {g' : Nat} {t' : TypeId} {cs' : Array Value} (h : Blk w g t cs) (h' : Blk w g' t' cs') (hne : t ≠ t') : g ≠ g' := by
  rintro rfl
  unfold Blk at h h'
  rw [h] at h'
  injection h' with h'
  injection h' with _ ht
  exact hne ht
end
/-- w' is w but for the blocks S, and for new blocks -/
structure Ch (S : List Nat) (w w' : World) : Prop where
  os : w'.os = w.os
  tape : w'.tape = w.tape
  output : w'.output = w.output
  size : w.heap.size ≤ w'.heap.size
  block : ∀ k, k < w.heap.size → k ∉ S → w'.heap[k]? = w.heap[k]?
section
variable {w w' w2 : World} {S S' : List Nat}
theorem Ch.refl (S : List Nat) (w : World) : Ch S w w := ⟨rfl, rfl, rfl, Nat.le_refl _, fun _ _ _ => rfl⟩
theorem Ch.drewN (S : List Nat) (w : World) (n : Nat) : Ch S w (w.drewN n) := ⟨rfl, rfl, rfl, Nat.le_refl _, fun _ _ _ => rfl⟩
theorem Ch.trans (h : Ch S w w') (k : Ch S w' w2) : Ch S w w2 :=
  ⟨k.os.trans h.os, k.tape.trans h.tape, k.output.trans h.output, Nat.le_trans h.size k.size, fun i hi hn => (k.block i (Nat.lt_of_lt_of_le hi h.size) hn).trans (h.block i hi hn)⟩
theorem Ch.mono (h : Ch S w w') (hs : ∀ b ∈ S, b ∈ S' ∨ w.heap.size ≤ b) : Ch S' w w' :=
  ⟨h.os, h.tape, h.output, h.size, fun i hi hn => h.block i hi (fun hm => by
    rcases hs i hm with h1 | h1
    · exact hn h1
    · omega)⟩
theorem Ch.of_below (h : Below w.heap.size w w') (S : List Nat) : Ch S w w' := ⟨h.os, h.tape, h.output, h.size, fun i hi _ => h.block i hi⟩
theorem Ch.of_grown {b : Nat} (h : w.grownBy w' (some b)) : Ch [b] w w' := ⟨h.os, h.tape, h.output, h.size, fun i hi hn => h.block i hi (fun e => hn (by injection e with e; simp [e]))⟩
theorem Ch.below {B : Nat} (h : Ch S w w') (hB : B ≤ w.heap.size) (hs : ∀ b ∈ S, B ≤ b) : Below B w w' :=
  ⟨h.os, h.tape, h.output, h.size, fun i hi => h.block i (by omega) (fun hm => by have := hs i hm; omega)⟩
theorem Ch.alloc (S : List Nat) (w : World) (o : Obj) : Ch S w (w.alloc o) := Ch.of_below ((Below.refl _ _).alloc (Nat.le_refl _) o) S
theorem Ch.set_ {b : Nat} (hb : b ∈ S) (w : World) (i : Nat) (u : Value) : Ch S w (w.setCell ⟨b, i, none⟩ u) :=
  ⟨rfl, rfl, rfl, by simp [World.setCell], fun k _ hn => Below.heap_setCell w ⟨b, i, none⟩ u k (fun e => hn (by rw [e]; exact hb))⟩
theorem Ch.heap {g : Nat} {o : Obj} (h : Ch S w w') (hg : w.heap[g]? = some o) (hn : g ∉ S) : w'.heap[g]? = some o := (h.block g (Array.getElem?_eq_some_iff.1 hg).1 hn).trans hg
theorem Blk.ch {g : Nat} {t : TypeId} {cs : Array Value} (h : Blk w g t cs) (hc : Ch S w w') (hn : g ∉ S) : Blk w' g t cs := hc.heap h hn
theorem Ch.owns {base : Nat} {e : TypeId} {size n : Nat} {v : Value} {xs : List Value} (hc : Ch S w w') (h : w.ownsRow base e size v n xs) (hn : ∀ b, v.ownBlock = some b → b ∉ S) : w'.ownsRow base e size v n xs := by
  obtain ⟨h1, h2⟩ := h
  refine ⟨h1, ?_⟩
  rcases h2 with h2 | ⟨g, cap, cur, rfl, hb, hh, r⟩
  · exact .inl h2
  · exact .inr ⟨g, cap, cur, rfl, hb, hc.heap hh (hn g rfl), r⟩
theorem Ch.map {H : Type} {P : Program} {k : TypeId} {R : Value → Option (DataW H × List MemPlace)} {b n : Nat} {D : DataW H} (hc : Ch S w w') (h : w.ownsMap P k R b n D) (hn : b ∉ S) : w'.ownsMap P k R b n D := by
  obtain ⟨es, clock, hb, r⟩ := h
  exact ⟨es, clock, hc.heap hb hn, r⟩
end
end Go.Proofs.YtjcinncphffgaaaGreat
namespace Go.Proofs.YtjcinncphffgaaaGreat
open Go.RowKit
section
variable {w w' : World} {g : Nat} {t ty : TypeId} {cs : Array Value} {d : TypeDesc}
/-- cells laid over an array from a place on -/
def over (cs : Array Value) (o : Nat) : List Value → Array Value
  | [] => cs
  | v :: r => over (cs.setIfInBounds o v) (o + 1) r
theorem over_size : ∀ (vs : List Value) (cs : Array Value) (o : Nat), (over cs o vs).size = cs.size
  | [], _, _ => rfl
  | v :: r, cs, o => by rw [over, over_size r, Array.size_setIfInBounds]
theorem over_get : ∀ (vs : List Value) (cs : Array Value) (o i : Nat), o + vs.length ≤ cs.size → (over cs o vs)[i]? = if o ≤ i ∧ i < o + vs.length then vs[i - o]? else cs[i]?
  | [], cs, o, i, _ => by rw [over, if_neg (by simp <;> omega)]
  | v :: r, cs, o, i, h => by
    simp only [List.length_cons] at h ⊢
    rw [over, over_get r _ _ _ (by rw [Array.size_setIfInBounds]; omega), Array.getElem?_setIfInBounds]
    by_cases e : o = i
    · subst e
      rw [if_neg (by omega), if_pos rfl, if_pos (by omega), if_pos (by omega), Nat.sub_self]; rfl
    · by_cases h1 : o + 1 ≤ i ∧ i < o + 1 + r.length
      · rw [if_pos h1, if_pos (by omega), show i - o = (i - (o + 1)) + 1 by omega]; rfl
      · rw [if_neg h1, if_neg e, if_neg (by omega)]
theorem over_full (vs : List Value) (cs : Array Value) (h : vs.length = cs.size) : over cs 0 vs = vs.toArray := by
  apply Array.ext_getElem?
  intro i
  rw [over_get vs cs 0 i (by omega)]
  by_cases hi : i < vs.length
  · rw [if_pos (by omega), Nat.sub_zero]; simp
  · rw [if_neg (by omega), Array.getElem?_eq_none (by omega), Array.getElem?_eq_none (by simp; omega)]
theorem blk_setCells : ∀ (vs : List Value) (o : Nat) {w : World} {cs : Array Value}, Blk w g t cs → Blk (w.setCells g o vs) g t (over cs o vs)
  | [], _, _, _, h => h
  | v :: r, o, w, cs, h => by
    show Blk ((w.setCell ⟨g, o, none⟩ v).setCells g (o + 1) r) g t (over (cs.setIfInBounds o v) (o + 1) r)
    exact blk_setCells r (o + 1) (h.set_ o v)
theorem Blk.setAll (h : Blk w g t cs) (vs : List Value) (hl : vs.length = cs.size) : Blk (w.setCells g 0 vs) g t vs.toArray := by
  have := blk_setCells vs 0 h
  rwa [over_full vs cs hl] at this
theorem Ch.setCells {S : List Nat} (hg : g ∈ S) : ∀ (vs : List Value) (o : Nat) (w : World), Ch S w (w.setCells g o vs)
  | [], _, w => Ch.refl S w
  | v :: r, o, w => (Ch.set_ hg w o v).trans (Ch.setCells hg r (o + 1) _)
end
/-- a whole block is written: the world behind it by what is known of it -/
theorem wpList_store_blk {ops : Array Oper} {rest : List Oper} {o : Oper} {a : Act} {w : World} {Q : Exit → Act → World → Prop} (hgd : o.guard = none) (ty : TypeId) (x y : Operand) (ho : o.op = .store ty x y)
    (g : Nat) {t : TypeId} {cs : Array Value} (hb : Blk w g t cs) (cells : Array Value) (hx : a.eval x = .pointer (some ⟨g, 0, none⟩)) (hy : a.eval y = .agg cells)
    (hs : cells.size = cs.size) (hi : (Tryz.prog.info? ty).map (·.size) = some cells.size) (h1 : cells.all (·.oneCell') = true)
    (h : ∀ W, Blk W g t cells → Ch [g] w W → wpList Tryz.prog ops Q rest (a.put o.dst undef) W) : wpList Tryz.prog ops Q (o :: rest) a w :=
  wpList_store_mid hgd ty x y ho g 0 cells hx hy (fun j hj => ⟨by rw [hb.cell, Array.getElem?_eq_getElem (by omega)]; rfl, hb.frozen _⟩) hi h1
    (h _ (by have := hb.setAll cells.toList (by simpa using hs); rwa [Array.toArray_toList] at this) (Ch.setCells (by simp) _ _ _))
end Go.Proofs.YtjcinncphffgaaaGreat
namespace Go.Proofs.YtjcinncphffgaaaGreat
open Go.RowKit Go.Maps
theorem bel_regrown {w W : World} (h : ∃ p : Regrown, W = Go.Sort.grow (redrawn w p.d) p.os) : Below w.heap.size w W := by
  obtain ⟨p, rfl⟩ := h
  exact below_regrown w p.d p.os
theorem Calls.rg {P : Program} {f : FuncId} {args : Array Value} {w : World} {p : Regrown} {v : Value}
    (h : ∀ W, Below w.heap.size w W → Calls P f args W fun e w' => e = .returned v ∧ Below W.heap.size W w') : Calls P f args (Go.Sort.grow (redrawn w p.d) p.os) fun e w'' => e = .returned v ∧ ∃ p : Regrown, w'' = Go.Sort.grow (redrawn w p.d) p.os :=
  Calls.regrown_of (h _ (below_regrown w p.d p.os))
theorem Calls.rg_same {P : Program} {f : FuncId} {args : Array Value} {w : World} {p : Regrown} {v : Value}
    (h : ∀ W, Below w.heap.size w W → Calls P f args W fun e w' => e = .returned v ∧ w' = W) : Calls P f args (Go.Sort.grow (redrawn w p.d) p.os) fun e w'' => e = .returned v ∧ ∃ p : Regrown, w'' = Go.Sort.grow (redrawn w p.d) p.os :=
  Calls.rg fun W hW => (h W hW).mono fun _ _ ⟨he, hn⟩ => ⟨he, hn ▸ Below.refl _ _⟩
theorem cell_rg {w : World} {a : Addr} {v : Value} (h : w.cell? a = some v) : ∀ p : Regrown, (Go.Sort.grow (redrawn w p.d) p.os).cell? a = some v := fun p => cell_regrown h p.d p.os
/-- a part of a block that is known whole is read -/
theorem quiet_load_blk {w : World} {o : Oper} {a : Act} {K : Act → Prop} (ty : TypeId) (x : Operand) (ho : o.op = .load ty x)
    (g off n : Nat) {t : TypeId} {cs : Array Value} {fs : Array Field} (hb : Blk w g t cs) (part : Array Value) (hx : a.eval x = .pointer (some ⟨g, off, none⟩)) (hp : cs.extract off (off + n) = part)
    (hu : Tryz.prog.underlying ty = some (.struct fs)) (hi : (Tryz.prog.info? ty).map (·.size) = some n) (hn : off + n ≤ cs.size) (hK : K (a.put o.dst (.agg part))) :
    o.quiet Tryz.prog a (fun w' => ∃ p : Regrown, w' = Go.Sort.grow (redrawn w p.d) p.os) K := by
  refine ⟨.agg part, ?_, hK⟩
  rintro _ ⟨p, rfl⟩
  have hb' : Blk (Go.Sort.grow (redrawn w p.d) p.os) g t cs := hb.bel (below_regrown w p.d p.os)
  unfold Oper.quietAt execOp
  subst hp
  simp only [ho, hx, Instr.loadAt, Instr.sureAddr, Sem.run_bind, Sem.run_pure, Result.andThen_ok, run_loadVar_mid (P := Tryz.prog) (Go.Sort.grow (redrawn w p.d) p.os) g off ty (cs.extract off (off + n)).toList _ (World.rangeAt_of_block (w := Go.Sort.grow (redrawn w p.d) p.os) (b := g) (C := cs) (t := t) (fr := (0, 0)) hb' off n) hu rfl (by rw [hi]; simp; omega)]
  unfold Oper.quietUpon
  rw [Array.toArray_toList]
  exact ⟨rfl, rfl⟩
/-- an element of a list is read, in a region that draws its order -/
theorem quiet_load_row {w : World} {o : Oper} {a : Act} {K : Act → Prop} (ty : TypeId) (x : Operand) (ho : o.op = .load ty x) (b off : Nat) (cl : List Value) {fs : Array Field} (hc : ∀ j u, cl[j]? = some u → w.cell? ⟨b, off + j, none⟩ = some u) (part : Array Value)
    (hx : a.eval x = .pointer (some ⟨b, off, none⟩)) (hp : cl.toArray = part) (hu : Tryz.prog.underlying ty = some (.struct fs)) (hi : (Tryz.prog.info? ty).map (·.size) = some cl.length) (hK : K (a.put o.dst (.agg part))) :
    o.quiet Tryz.prog a (fun w' => ∃ p : Regrown, w' = Go.Sort.grow (redrawn w p.d) p.os) K := by
  refine ⟨.agg part, ?_, hK⟩
  rintro _ ⟨p, rfl⟩
  unfold Oper.quietAt execOp
  subst hp
  simp only [ho, hx, Instr.loadAt, Instr.sureAddr, Sem.run_bind, Sem.run_pure, Result.andThen_ok, run_loadVar_mid (P := Tryz.prog) (Go.Sort.grow (redrawn w p.d) p.os) b off ty cl _ (fun j v hv => cell_regrown (hc j v hv) p.d p.os) hu rfl hi]
  unfold Oper.quietUpon
  exact ⟨rfl, rfl⟩
end Go.Proofs.YtjcinncphffgaaaGreat
namespace Go.Proofs.YtjcinncphffgaaaGreat
theorem and_low (b : Int) (h0 : 0 ≤ b) (h1 : b < 18446744073709551616) : bits .and .u64 b 4294967295 = b % 4294967296 := by
  rw [u64_and b 4294967295 h0 h1 (by decide) (by decide)]
  have := Nat.and_two_pow_sub_one_eq_mod b.toNat 32
  rw [show (4294967295 : Int).toNat = 2 ^ 32 - 1 by decide, this]
  omega
theorem or_half (x y : Int) (h0 : 0 ≤ x) (h1 : x < 4294967296) (h2 : 0 ≤ y) (h3 : y < 4294967296) : bits .or .u64 (x * 4294967296) y = x * 4294967296 + y := by
  rw [u64_or _ y (by omega) (by omega) h2 (by omega)]
  have := Nat.shiftLeft_add_eq_or_of_lt (b := y.toNat) (i := 32) (by omega) x.toNat
  rw [Nat.shiftLeft_eq] at this
  rw [show (x * 4294967296).toNat = x.toNat * 2 ^ 32 by omega, ← this]
  omega
theorem half_bd (x y : Int) (h0 : 0 ≤ x) (h1 : x ≤ 4294967295) (h2 : 0 ≤ y) (h3 : y ≤ 4294967295) : 0 ≤ x * y ∧ x * y ≤ 18446744065119617025 := by
  refine ⟨Int.mul_nonneg h0 h2, ?_⟩
  have := Int.mul_le_mul h1 h3 h2 (by decide)
  simpa using this
/-- the two halves of a product, as the program reckons them -/
def hiH (a b : Int) : Int := IntKind.u64.wrap
            (IntKind.u64.wrap
                  (IntKind.u64.wrap (a / 4294967296 * (b / 4294967296)) +
                    IntKind.u64.wrap
                        (IntKind.u64.wrap (a / 4294967296 * bits BinOp.and IntKind.u64 b 4294967295) +
                          IntKind.u64.wrap
                              (bits BinOp.and IntKind.u64 a 4294967295 * bits BinOp.and IntKind.u64 b 4294967295) /
                            4294967296) /
                      4294967296) +
                IntKind.u64.wrap
                    (IntKind.u64.wrap (bits BinOp.and IntKind.u64 a 4294967295 * (b / 4294967296)) +
                      bits BinOp.and IntKind.u64
                        (IntKind.u64.wrap
                          (IntKind.u64.wrap (a / 4294967296 * bits BinOp.and IntKind.u64 b 4294967295) +
                            IntKind.u64.wrap
                                (bits BinOp.and IntKind.u64 a 4294967295 * bits BinOp.and IntKind.u64 b 4294967295) /
                              4294967296))
                        4294967295) /
                  4294967296)
def loH (a b : Int) : Int := bits BinOp.or IntKind.u64
              (IntKind.u64.wrap
                (IntKind.u64.wrap
                    (IntKind.u64.wrap (bits BinOp.and IntKind.u64 a 4294967295 * (b / 4294967296)) +
                      bits BinOp.and IntKind.u64
                        (IntKind.u64.wrap
                          (IntKind.u64.wrap (a / 4294967296 * bits BinOp.and IntKind.u64 b 4294967295) +
                            IntKind.u64.wrap
                                (bits BinOp.and IntKind.u64 a 4294967295 * bits BinOp.and IntKind.u64 b 4294967295) /
                              4294967296))
                        4294967295) *
                  4294967296))
              (bits BinOp.and IntKind.u64
                (IntKind.u64.wrap (bits BinOp.and IntKind.u64 a 4294967295 * bits BinOp.and IntKind.u64 b 4294967295))
                4294967295)
theorem half_mul (a b : Int) : a * b = (a / 4294967296 * (b / 4294967296)) * 18446744073709551616 + (a / 4294967296 * (b % 4294967296) + a % 4294967296 * (b / 4294967296)) * 4294967296 + a % 4294967296 * (b % 4294967296) := by
  have ea : a = a / 4294967296 * 4294967296 + a % 4294967296 := by omega
  have eb : b = b / 4294967296 * 4294967296 + b % 4294967296 := by omega
  generalize a / 4294967296 = a1 at *
  generalize b / 4294967296 = b1 at *
  generalize a % 4294967296 = a0 at *
  generalize b % 4294967296 = b0 at *
  subst ea eb
  simp only [Int.add_mul, Int.mul_add]
  have e1 : a1 * 4294967296 * (b1 * 4294967296) = a1 * b1 * 18446744073709551616 := by
    rw [Int.mul_assoc, ← Int.mul_assoc 4294967296, Int.mul_comm 4294967296 b1, Int.mul_assoc b1, ← Int.mul_assoc a1]; rfl
  have e2 : a1 * 4294967296 * b0 = a1 * b0 * 4294967296 := by rw [Int.mul_assoc, Int.mul_comm 4294967296 b0, Int.mul_assoc]
  have e3 : a0 * (b1 * 4294967296) = a0 * b1 * 4294967296 := by rw [Int.mul_assoc]
  rw [e1, e2, e3]
  omega
theorem halves (a b : Int) (ha : 0 ≤ a) (hb : 0 ≤ b) (ha6 : a < 18446744073709551616) (hb6 : b < 18446744073709551616) : hiH a b = a * b / 18446744073709551616 ∧ loH a b = a * b % 18446744073709551616 := by
  unfold hiH loH
  rw [and_low a ha ha6, and_low b hb hb6, half_mul a b]
  have a0 : 0 ≤ a % 4294967296 ∧ a % 4294967296 ≤ 4294967295 := by omega
  have b0 : 0 ≤ b % 4294967296 ∧ b % 4294967296 ≤ 4294967295 := by omega
  have a1 : 0 ≤ a / 4294967296 ∧ a / 4294967296 ≤ 4294967295 := by omega
  have b1 : 0 ≤ b / 4294967296 ∧ b / 4294967296 ≤ 4294967295 := by omega
  obtain ⟨p0, p1⟩ := half_bd _ _ a1.1 a1.2 b1.1 b1.2
  obtain ⟨q0, q1⟩ := half_bd _ _ a1.1 a1.2 b0.1 b0.2
  obtain ⟨r0, r1⟩ := half_bd _ _ a0.1 a0.2 b1.1 b1.2
  obtain ⟨s0, s1⟩ := half_bd _ _ a0.1 a0.2 b0.1 b0.2
  generalize a / 4294967296 * (b / 4294967296) = P at *
  generalize a / 4294967296 * (b % 4294967296) = Q at *
  generalize a % 4294967296 * (b / 4294967296) = R at *
  generalize a % 4294967296 * (b % 4294967296) = S at *
  have w1 : IntKind.u64.wrap S = S := by rw [IntKind.wrap_u64]; omega
  have w2 : IntKind.u64.wrap Q = Q := by rw [IntKind.wrap_u64]; omega
  have w3 : IntKind.u64.wrap R = R := by rw [IntKind.wrap_u64]; omega
  have w4 : IntKind.u64.wrap P = P := by rw [IntKind.wrap_u64]; omega
  have w5 : IntKind.u64.wrap (Q + S / 4294967296) = Q + S / 4294967296 := by rw [IntKind.wrap_u64]; omega
  rw [w1, w2, w3, w4, w5, and_low (Q + S / 4294967296) (by omega) (by omega), and_low S (by omega) (by omega)]
  have w6 : IntKind.u64.wrap (R + (Q + S / 4294967296) % 4294967296) = R + (Q + S / 4294967296) % 4294967296 := by rw [IntKind.wrap_u64]; omega
  rw [w6]
  have w7 : IntKind.u64.wrap (P + (Q + S / 4294967296) / 4294967296) = P + (Q + S / 4294967296) / 4294967296 := by rw [IntKind.wrap_u64]; omega
  rw [w7]
  have w8 : IntKind.u64.wrap ((R + (Q + S / 4294967296) % 4294967296) * 4294967296) = ((R + (Q + S / 4294967296) % 4294967296) % 4294967296) * 4294967296 := by rw [IntKind.wrap_u64]; omega
  rw [w8, or_half _ _ (by omega) (by omega) (by omega) (by omega), IntKind.wrap_u64]
  constructor <;> omega
end Go.Proofs.YtjcinncphffgaaaGreat
namespace Go.Proofs.YtjcinncphffgaaaGreat
open Go.RowKit
def plusV (a b : Int) : Int := if a + b < 18446744073709551616 then a + b else 0
def plusE (a b : Int) : Int := if a + b < 18446744073709551616 then 0 else 2
def mulV (a b : Int) : Int := if a * b < 18446744073709551616 then a * b else 0
def mulE (a b : Int) : Int := if a * b < 18446744073709551616 then 0 else 2
set_option maxHeartbeats 1000000 in
theorem add_any (a b : Int) (w : World) (ha : 0 ≤ a) (hb : 0 ≤ b) (ha6 : a < 18446744073709551616) (hb6 : b < 18446744073709551616) :
    Calls Tryz.prog 102 #[.int .u64 a, .int .u64 b] w fun e w' => e = .returned (.tuple #[.int .u64 (plusV a b), .int .i64 (plusE a b)]) ∧ w' = w := by
  go_enter Tryz.func102, Tryz.ntmps102
  by_cases h : a + b < 18446744073709551616
  · have hw : IntKind.u64.wrap (a + b) = a + b := by rw [IntKind.wrap_u64]; omega
    have hd : decide (a + b < a) = false := decide_eq_false (by omega)
    go_wp2
    go_ret2
    exact ⟨ret_ii (by rw [plusV, if_pos h]) (by rw [plusE, if_pos h]), rfl⟩
  · have hw : IntKind.u64.wrap (a + b) = a + b - 18446744073709551616 := by rw [IntKind.wrap_u64]; omega
    have hd : decide (a + b - 18446744073709551616 < a) = true := decide_eq_true (by omega)
    go_wp2
    go_ret2
    exact ⟨ret_ii (by rw [plusV, if_neg (by omega)]) (by rw [plusE, if_neg (by omega)]), rfl⟩
set_option maxHeartbeats 1000000 in
theorem product_any (a b : Int) (w : World) (ha : 0 ≤ a) (hb : 0 ≤ b) (ha6 : a < 18446744073709551616) (hb6 : b < 18446744073709551616) :
    Calls Tryz.prog 219 #[.int .u64 a, .int .u64 b] w fun e w' => e = .returned (.tuple #[.int .u64 (a * b / 18446744073709551616), .int .u64 (a * b % 18446744073709551616)]) ∧ w' = w := by
  obtain ⟨h1, h2⟩ := halves a b ha hb ha6 hb6
  go_enter Tryz.func219, Tryz.ntmps219
  go_wp2
  go_ret2
  exact ⟨ret_ii h1 h2, rfl⟩
set_option maxHeartbeats 1000000 in
theorem mul_any (a b : Int) (w : World) (ha : 0 ≤ a) (hb : 0 ≤ b) (ha6 : a < 18446744073709551616) (hb6 : b < 18446744073709551616) :
    Calls Tryz.prog 197 #[.int .u64 a, .int .u64 b] w fun e w' => e = .returned (.tuple #[.int .u64 (mulV a b), .int .i64 (mulE a b)]) ∧ w' = w := by
  have hn : 0 ≤ a * b := Int.mul_nonneg ha hb
  have hc := product_any a b w ha hb ha6 hb6
  unfold mulV mulE
  generalize a * b = p at *
  go_enter Tryz.func197, Tryz.ntmps197
  go_wp2_with fail
  refine hc.mono ?_
  rintro e w1 ⟨rfl, rfl⟩
  by_cases h : p < 18446744073709551616
  · have hd : decide (0 < p / 18446744073709551616) = false := decide_eq_false (by omega)
    go_wp2
    go_ret2
    exact ⟨ret_ii (by omega) rfl, rfl⟩
  · have hd : decide (0 < p / 18446744073709551616) = true := decide_eq_true (by omega)
    go_wp2
    go_ret2
    exact ⟨rfl, rfl⟩
end Go.Proofs.YtjcinncphffgaaaGreat
namespace Go.Proofs.YtjcinncphffgaaaGreat
open Go.RowKit
def u64c (n : Int) : List Value := [.int .u64 n]
def totI : List Int → Int
  | [] => 0
  | a :: r => a + totI r
theorem totI_snoc : ∀ (l : List Int) (k : Nat) (h : k < l.length), totI (l.take (k + 1)) = totI (l.take k) + l[k]
  | a :: r, 0, _ => by simp [totI]
  | a :: r, k + 1, h => by
    simp only [List.take_succ_cons, totI, List.getElem_cons_succ]
    rw [totI_snoc r k (by simpa using h)]; omega
theorem totI_nonneg : ∀ (l : List Int), (∀ x ∈ l, 0 ≤ x) → 0 ≤ totI l
  | [], _ => by simp [totI]
  | a :: r, h => by
    have h1 := h a (by simp)
    have h2 := totI_nonneg r fun x hx => h x (by simp [hx])
    simp only [totI]; omega
theorem totI_le : ∀ (l : List Int) (k : Nat), (∀ x ∈ l, 0 ≤ x) → totI (l.take k) ≤ totI l
  | [], k, _ => by simp [totI]
  | a :: r, 0, h => by
    have := totI_nonneg _ h
    simpa [totI] using this
  | a :: r, k + 1, h => by
    have := totI_le r k fun x hx => h x (by simp [hx])
    simp only [List.take_succ_cons, totI]; omega
def totV (l : List Int) : Int := if totI l < 18446744073709551616 then totI l else 0
def totE (l : List Int) : Int := if totI l < 18446744073709551616 then 0 else 2
set_option maxHeartbeats 1000000 in
theorem sum64_any (A : Option Addr) (l : List Int) (c : Nat) (w : World) (hl : l.length ≤ 1000000) (hb : ∀ x ∈ l, 0 ≤ x ∧ x < 18446744073709551616) (hs : Sl w w.heap.size 1 u64c A l) :
    Calls Tryz.prog 104 #[.slice A l.length c] w fun e w' => e = .returned (.tuple #[.int .u64 (totV l), .int .i64 (totE l)]) ∧ w' = w := by
  have hn : ∀ x ∈ l, 0 ≤ x := fun x hx => (hb x hx).1
  go_enter Tryz.func104, Tryz.ntmps104
  go_wp2
  go_loopw [4, 10] (fun s i wr => ∃ k : Nat, k ≤ l.length ∧ i = .int .i64 k ∧ s = .int .u64 (totI (l.take k)) ∧ totI (l.take k) < 18446744073709551616 ∧ wr = w) (fun _ i _ => l.length - (intOf i).toNat)
  case atStart => exact ⟨0, Nat.zero_le _, rfl, by simp [totI], by simp [totI], rfl⟩
  case round =>
    obtain ⟨k, hk, rfl, rfl, hlo, rfl⟩ := hrel
    have hge : 0 ≤ totI (l.take k) := totI_nonneg _ fun x hx => hn x (List.mem_of_mem_take hx)
    by_cases hlt : k < l.length
    · obtain ⟨b, off, rfl, hbB, hc⟩ := hs.at_ hlt
      obtain ⟨hx0, hx6⟩ := hb _ (List.getElem_mem hlt)
      have hsn := totI_snoc l k hlt
      have hle := totI_le l (k + 1) hn
      generalize hx : l[k] = x at hc hx0 hx6 hsn
      have hc0 : wr.cell? ⟨b, off + k, none⟩ = some (.int .u64 x) := by simpa using hc 0 _ rfl
      clear hc hx
      have HA := Lib.hid (add_any (totI (l.take k)) x wr hge hx0 hlo hx6)
      generalize hS : totI (l.take k) = S at *
      by_cases hf : S + x < 18446744073709551616
      · have eV : plusV S x = S + x := if_pos hf
        have eE : plusE S x = 0 := if_pos hf
        go_wp2_with fail
        refine HA.out.mono ?_
        rintro e w1 ⟨rfl, rfl⟩
        rw [eV, eE]
        go_wp2
        go_roundw
        case rel => exact ⟨k + 1, by omega, by go_num, by rw [hsn], by omega, by first | rfl | trivial⟩
        case measure => simp [intOf]; omega
      · have eE : plusE S x = 2 := if_neg hf
        have ht : ¬ totI l < 18446744073709551616 := by omega
        go_wp2_with fail
        refine HA.out.mono ?_
        rintro e w1 ⟨rfl, rfl⟩
        rw [eE]
        go_wp2
        go_ret2
        exact ⟨ret_ii (by rw [totV, if_neg (by omega)]) (by rw [totE, if_neg (by omega)]), rfl⟩
    · have hkl : k = l.length := by omega
      subst hkl
      rw [List.take_length] at *
      go_wp2
      go_ret2
      exact ⟨ret_ii (by rw [totV, if_pos hlo]) (by rw [totE, if_pos hlo]), rfl⟩
end Go.Proofs.YtjcinncphffgaaaGreat
namespace Go.Proofs.YtjcinncphffgaaaGreat
end Go.Proofs.YtjcinncphffgaaaGreat
namespace Go.Proofs.YtjcinncphffgaaaGreat
open Go.RowKit
end Go.Proofs.YtjcinncphffgaaaGreat
namespace Go.Proofs.YtjcinncphffgaaaGreat
open Go.RowKit
theorem of_any (n : Nat) (w : World) (h : n ≤ 9223372036854775807) :
    Calls Tryz.prog 186 #[.int .i64 n] w fun e w' => e = .returned (.tuple #[.int .u64 n, .int .i64 0]) ∧ w' = w := by
  have hd : decide ((n : Int) < 0) = false := decide_eq_false (by omega)
  go_enter Tryz.func186, Tryz.ntmps186
  go_wp2
  go_ret2
  exact ⟨rfl, rfl⟩
end Go.Proofs.YtjcinncphffgaaaGreat
namespace Go.Proofs.YtjcinncphffgaaaGreat
open Go.RowKit
end Go.Proofs.YtjcinncphffgaaaGreat
namespace Go.Proofs.YtjcinncphffgaaaGreat
/-- Byte by byte. -/
def ltB : List UInt8 → List UInt8 → Bool
  | _, [] => false
  | [], _ :: _ => true
  | a :: r, b :: s => if a < b then true else if b < a then false else ltB r s
theorem ltB_irrefl : ∀ a, ltB a a = false
  | [] => rfl
  | a :: r => by unfold ltB; rw [if_neg (UInt8.lt_irrefl a), if_neg (UInt8.lt_irrefl a)]; exact ltB_irrefl r
theorem u8_eq {a b : UInt8} (h : ¬ a < b) (h' : ¬ b < a) : a = b := UInt8.le_antisymm (UInt8.not_lt.1 h') (UInt8.not_lt.1 h)
theorem ltB_eq : ∀ a b, ltB a b = false → ltB b a = false → a = b
  | [], [], _, _ => rfl
  | [], _ :: _, h, _ => by simp [ltB] at h
  | _ :: _, [], _, h => by simp [ltB] at h
  | a :: r, b :: s, h, h' => by
    unfold ltB at h h'
    by_cases h1 : a < b
    · rw [if_pos h1] at h; cases h
    · by_cases h2 : b < a
      · rw [if_pos h2] at h'; cases h'
      · rw [if_neg h1, if_neg h2] at h
        rw [if_neg h2, if_neg h1] at h'
        rw [u8_eq h1 h2, ltB_eq r s h h']
theorem ltB_trans : ∀ a b c, ltB a b = true → ltB b c = true → ltB a c = true
  | _, [], _, h, _ => by simp [ltB] at h
  | _, _ :: _, [], _, h => by simp [ltB] at h
  | [], _ :: _, _ :: _, _, _ => rfl
  | a :: r, b :: s, c :: t, h, h' => by
    unfold ltB at h h' ⊢
    by_cases h1 : a < b
    · by_cases h2 : b < c
      · rw [if_pos (UInt8.lt_trans h1 h2)]
      · by_cases h3 : c < b
        · rw [if_neg h2, if_pos h3] at h'; cases h'
        · rw [← u8_eq h2 h3, if_pos h1]
    · by_cases h2 : b < a
      · rw [if_neg h1, if_pos h2] at h; cases h
      · rw [if_neg h1, if_neg h2] at h
        have e := u8_eq h1 h2
        subst e
        by_cases h3 : a < c
        · rw [if_pos h3]
        · by_cases h4 : c < a
          · rw [if_neg h3, if_pos h4] at h'; cases h'
          · rw [if_neg h3, if_neg h4] at h' ⊢
            exact ltB_trans r s t h h'
def strC (s : ByteArray) : List Value := [.string s]

end Go.Proofs.YtjcinncphffgaaaGreat
namespace Go.Proofs.YtjcinncphffgaaaGreat
open Go.RowKit
theorem own_form {w : World} {base size n : Nat} {e : TypeId} {v : Value} {xs : List Value} (h : w.ownsRow base e size v n xs) : ∃ A c, v = .slice A n c := by
  obtain ⟨_, h | ⟨g, cap, cur, rfl, _⟩⟩ := h
  · obtain ⟨rfl, rfl⟩ := h
    exact ⟨none, 0, rfl⟩
  · exact ⟨_, _, rfl⟩
theorem own_empty {w : World} {base g k : Nat} {e : TypeId} (hg : w.heap[g]? = some (.cells #[] e (0, 0))) (hb : base ≤ g) : w.ownsRow base e k (.slice (some ⟨g, 0, none⟩) 0 0) 0 [] :=
  ⟨by simp, .inr ⟨g, 0, #[], rfl, hb, hg, Nat.le_refl _, by unfold maxLen; omega, by simp, by simp⟩⟩
theorem own_lit {w : World} {base g k n : Nat} {e : TypeId} {cs : Array Value} (hg : Blk w g e cs) (hb : base ≤ g) (hn : cs.size = n * k) (hm : n ≤ maxLen) : w.ownsRow base e k (.slice (some ⟨g, 0, none⟩) n n) n cs.toList :=
  ⟨by simpa using hn, .inr ⟨g, n, cs, rfl, hb, hg, Nat.le_refl _, hm, hn, by rw [List.take_of_length_le]; simp [hn]⟩⟩
theorem one_int {k : IntKind} (n : Int) : ∀ u ∈ [Value.int k n], u.oneCell' = true := by intro u hu; simp at hu; subst hu; rfl
theorem one_ints {k : IntKind} (l : List Int) : ∀ u ∈ l.map (Value.int k), u.oneCell' = true := by intro u hu; simp at hu; obtain ⟨x, _, rfl⟩ := hu; rfl
theorem one_str (s : ByteArray) : ∀ u ∈ [Value.string s], u.oneCell' = true := by intro u hu; simp at hu; subst hu; rfl
theorem Tryz.infoU8 : (Tryz.prog.info? 5).map (fun i => (i.zero, i.size, i.bytes)) = some (some (.int .u8 0), 1, 1) := by kernel_rfl
theorem Tryz.infoStr : (Tryz.prog.info? 9).map (fun i => (i.zero, i.size, i.bytes)) = some (some (.string ByteArray.empty), 1, 16) := by kernel_rfl
set_option maxRecDepth 100000 in
/-- 'string(b)' of a row of the call's own -/
theorem conv_own {w : World} {base n : Nat} {v : Value} {xs : List Int} (h : w.ownsRow base 5 1 v n (xs.map (Value.int .u8))) :
    (convert 198 9 v).run Tryz.prog w = .ok (.string (strOfNums xs)) w := by
  have hl : xs.length = n := by have := h.1; simpa using this
  obtain ⟨A, c, rfl⟩ := own_form h
  by_cases hn : n = 0
  · subst hn
    have : xs = [] := List.length_eq_zero_iff.1 hl
    subst this
    obtain ⟨_, h | ⟨g, cap, cur, hv, _, hg, _⟩⟩ := h
    · obtain ⟨hv, _⟩ := h
      injection hv with h1 h2 h3
      subst h1 h3
      exact run_convert_bytes_nil _ 198 5 Tryz.underlying198 Tryz.underlying5 0 0 _ Tryz.underlying9
    · injection hv with h1 h2 h3
      subst h1
      exact run_convert_bytes_arg _ 198 5 Tryz.underlying198 Tryz.underlying5 g 0 0 c [] rfl (fun i hi => by omega) _ Tryz.underlying9
  · obtain ⟨g, cap, hv, _, hlt⟩ := h.form (by omega)
    injection hv with h1 h2 h3
    subst h1
    refine run_convert_bytes_arg _ 198 5 Tryz.underlying198 Tryz.underlying5 g 0 n c xs hl (fun i hi => ?_) _ Tryz.underlying9
    have := h.cells (g := g) rfl i (.int .u8 (xs.getD i 0)) (by simp [List.getD_eq_getElem?_getD, hl, hi])
    rw [addr_add0] at this
    simpa using this
theorem ret_str {s t : ByteArray} (h : s = t) : Ending.returned (.string s) = .returned (.string t) := by rw [h]
theorem conv1 (W : World) (n : Int) : (convert 198 9 (.slice (some ⟨W.heap.size, 0, none⟩) 1 1)).run Tryz.prog (W.alloc (.cells #[.int .u8 n] 5)) = .ok (.string (strOfNums [n])) (W.alloc (.cells #[.int .u8 n] 5)) :=
  conv_own (xs := [n]) (own_lit (base := W.heap.size) (k := 1) (Blk.new W _ _) (Nat.le_refl _) (by simp) (by unfold maxLen; omega))
theorem conv2 (W : World) (m n : Int) : (convert 198 9 (.slice (some ⟨W.heap.size, 0, none⟩) 2 2)).run Tryz.prog (W.alloc (.cells #[.int .u8 m, .int .u8 n] 5)) = .ok (.string (strOfNums [m, n])) (W.alloc (.cells #[.int .u8 m, .int .u8 n] 5)) :=
  conv_own (xs := [m, n]) (own_lit (base := W.heap.size) (k := 1) (Blk.new W _ _) (Nat.le_refl _) (by simp) (by unfold maxLen; omega))
theorem num1_size (n : Int) : (strOfNums [n]).size = 1 := strOfNums_size _
theorem num2_size (m n : Int) : (strOfNums [m, n]).size = 2 := strOfNums_size _
end Go.Proofs.YtjcinncphffgaaaGreat
namespace Go.Proofs.YtjcinncphffgaaaGreat
open Go.RowKit
def n8 (n j : Nat) : Int := ((n / 2 ^ (8 * (7 - j)) % 256 : Nat) : Int)
/-- a number's eight bytes -/
def putB (n : Nat) : ByteArray := strOfNums ((List.range 8).map (n8 n))
theorem putB_size (n : Nat) : (putB n).size = 8 := by rw [putB, strOfNums_size]; simp
def pK (n k : Nat) : Array Value := ((List.range 8).map fun j => Value.int .u8 (if 8 - k ≤ j then n8 n j else 0)).toArray
theorem pK_size (n k : Nat) : (pK n k).size = 8 := by simp [pK]
theorem pK_get (n k i : Nat) (h : i < 8) : (pK n k)[i]? = some (.int .u8 (if 8 - k ≤ i then n8 n i else 0)) := by
  simp [pK, h]
theorem pK_set (n k : Nat) (h : k < 8) : (pK n k).setIfInBounds (7 - k) (.int .u8 ((n / 2 ^ (8 * k) % 256 : Nat) : Int)) = pK n (k + 1) := by
  apply Array.ext_getElem?
  intro i
  by_cases hi : i < 8
  · rw [pK_get _ _ _ hi, Array.getElem?_setIfInBounds, pK_size, pK_get _ _ _ hi]
    by_cases e : 7 - k = i
    · subst e
      rw [if_pos rfl, if_pos (by omega), if_pos (by omega), n8, show 7 - (7 - k) = k by omega]
    · rw [if_neg e]
      by_cases hl : 8 - k ≤ i
      · rw [if_pos hl, if_pos (by omega)]
      · rw [if_neg hl, if_neg (by omega)]
  · rw [Array.getElem?_eq_none (by simp [pK_size]; omega), Array.getElem?_eq_none (by simp [pK_size]; omega)]
theorem pK_full (n : Nat) : (pK n 8).toList = ((List.range 8).map (n8 n)).map (Value.int .u8) := by
  simp [pK]
theorem pK_made (n : Nat) : madeCells (Value.int .u8 0).cells 8 = pK n 0 := by
  apply Array.ext_getElem?
  intro i
  by_cases hi : i < 8
  · rw [pK_get _ _ _ hi, if_neg (by omega)]
    simp [madeCells, hi, Value.cells, Nat.mod_one]
  · rw [Array.getElem?_eq_none (by simp [madeCells]; omega), Array.getElem?_eq_none (by simp [pK_size]; omega)]
set_option maxRecDepth 100000 in
set_option maxHeartbeats 1000000 in
theorem put_any (n : Nat) (w : World) (hn : n < 18446744073709551616) :
    Calls Tryz.prog 130 #[.int .u64 n] w fun e w' => e = .returned (.string (putB n)) ∧ Below w.heap.size w w' := by
  obtain ⟨i0, hi, hz0, hz1, hz2⟩ := info_parts Tryz.infoU8
  have hmk : (Instr.makeSlice 198 (.int .i64 8) (.int .i64 8)).run Tryz.prog w = .ok (.slice (some ⟨w.heap.size, 0, none⟩) 8 8) (w.alloc (.cells (pK n 0) 5)) := by
    rw [run_make w 198 5 i0 _ Tryz.underlying198 hi hz0 .i64 .i64 8 8 (by decide) (by decide) (by rw [hz2]; decide) (by decide), hz1, ← pK_made n]
    rfl
  clear hi hz0 hz1 hz2
  go_enter Tryz.func130, Tryz.ntmps130
  go_wp2
  go_loopw [8] (fun i wr => ∃ k : Nat, k ≤ 8 ∧ i = .int .i64 k ∧ Hid (Blk wr w.heap.size 5 (pK n k)) ∧ Hid (Below w.heap.size w wr)) (fun i _ => 8 - (intOf i).toNat)
  case atStart => exact ⟨0, by omega, rfl, Blk.new _ _ _, (Below.refl _ _).alloc (Nat.le_refl _) _⟩
  case round =>
    obtain ⟨k, hk, rfl, HB, HW⟩ := hrel
    by_cases hk8 : k < 8
    · have hw : IntKind.u8.wrap ((n : Int) / 2 ^ (8 * k)) = ((n / 2 ^ (8 * k) % 256 : Nat) : Int) := by
        rw [IntKind.wrap_u8]; simp
      have hc : wr.cell? ⟨w.heap.size, 7 - k, none⟩ = some (.int .u8 0) := by rw [Blk.cell HB.out, pK_get _ _ _ (by omega), if_neg (by omega)]
      have f0 := Blk.frozen HB.out (7 - k)
      have HS := Lib.hid (pK_set n k hk8)
      go_wp2
      go_roundw
      case rel => exact ⟨k + 1, by omega, by go_num, HS.out ▸ Blk.set_ HB.out _ _, HW.out.trans ((Ch.set_ (List.mem_singleton.2 rfl) wr _ _).below HW.out.size (by simp))⟩
      case measure => simp [intOf]; omega
    · obtain rfl : k = 8 := by omega
      have kc := conv_own (own_lit (k := 1) (n := 8) HB.out (Nat.le_refl _) (by simp [pK_size]) (by unfold maxLen; omega) |> fun h => (pK_full n) ▸ h)
      go_wp2
      go_ret
      exact ⟨rfl, HW.out⟩
end Go.Proofs.YtjcinncphffgaaaGreat
namespace Go.Proofs.YtjcinncphffgaaaGreat
open Go.RowKit

theorem Blk.newAt {w : World} {t : TypeId} {cs : Array Value} {g : Nat} (hg : g = w.heap.size) : Blk (w.alloc (.cells cs t)) g t cs := hg ▸ Blk.new w t cs
def WrAt (w : World) (b : Nat) (s : ByteArray) : Prop := Blk w b 173 #[.string s, .int .i64 0]
theorem WrAt.ch {w w' : World} {b : Nat} {s : ByteArray} {S : List Nat} (h : WrAt w b s) (hc : Ch S w w') (h1 : b ∉ S) : WrAt w' b s := Blk.ch h hc h1
set_option maxHeartbeats 400000 in
theorem wput_ok (b : Nat) (s t : ByteArray) (e : Int) (w : World) (hsz : s.size + t.size ≤ 1099511627776) (h : WrAt w b s) :
    Calls Tryz.prog 151 #[.pointer (some ⟨b, 0, none⟩), .string t, .bool true, .int .i64 e] w fun e w' => e = .returned (.tuple #[]) ∧ WrAt w' b (s ++ t) ∧ Ch [b] w w' := by
  have c0 : w.cell? ⟨b, 0, none⟩ = some (.string s) := Blk.cell h 0
  have f0 : w.frozen? ⟨b, 0, none⟩ = false := Blk.frozen h 0
  go_enter Tryz.func151, Tryz.ntmps151
  go_wp2
  go_end0
  exact ⟨rfl, Blk.set_ h 0 _, Ch.set_ (by simp) _ _ _⟩
set_option maxRecDepth 100000 in
set_option maxHeartbeats 400000 in
theorem wbyte_ok (b : Nat) (s : ByteArray) (n : Int) (w : World) (h0 : 0 ≤ n) (h1 : n ≤ 255) (hs : s.size ≤ 1000000) (h : WrAt w b s) :
    Calls Tryz.prog 87 #[.pointer (some ⟨b, 0, none⟩), .int .i64 n] w fun e w' => e = .returned (.tuple #[]) ∧ WrAt w' b (s ++ strOfNums [n]) ∧ Ch [b] w w' := by
  have H := Lib.hid h
  have kc := conv1
  clear h
  go_enter Tryz.func87, Tryz.ntmps87
  go_wp2_with fail
  refine (wput_ok b s _ 1 _ (by rw [num1_size]; omega) (Blk.alloc H.out _)).mono ?_
  rintro e w' ⟨rfl, h2, h3⟩
  have h4 := Lib.hid ((Ch.alloc [b] w (.cells #[.int .u8 n] 5)).trans h3)
  go_wp2
  go_end0
  exact ⟨rfl, h2, h4.out⟩
/-- a text behind its length -/
def blobB (t : ByteArray) : ByteArray := strOfNums [(t.size : Int) / 256, (t.size : Int) % 256] ++ t
theorem blobB_size (t : ByteArray) : (blobB t).size = 2 + t.size := by rw [blobB, ByteArray.size_append, num2_size]
set_option maxRecDepth 100000 in
set_option maxHeartbeats 400000 in
theorem wblob_ok (b : Nat) (s t : ByteArray) (w : World) (h1 : t.size ≤ 4096) (hs : s.size ≤ 1000000) (h : WrAt w b s) :
    Calls Tryz.prog 117 #[.pointer (some ⟨b, 0, none⟩), .string t] w fun e w' => e = .returned (.tuple #[]) ∧ WrAt w' b (s ++ blobB t) ∧ Ch [b] w w' := by
  have H := Lib.hid h
  have kc := conv2
  have k2 := num2_size
  have hd : decide ((t.size : Int) ≤ 4096) = true := decide_eq_true (by omega)
  clear h
  go_enter Tryz.func117, Tryz.ntmps117
  go_wp2_with fail
  refine (wput_ok b s (strOfNums [(t.size : Int) / 256, (t.size : Int) % 256] ++ t) 5 _ (by rw [ByteArray.size_append, num2_size]; omega) (Blk.alloc H.out _)).mono ?_
  rintro e w' ⟨rfl, h2, h3⟩
  have h4 := Lib.hid ((Ch.alloc [b] w _).trans h3)
  go_wp2
  go_end0
  exact ⟨rfl, h2, h4.out⟩
set_option maxHeartbeats 400000 in
theorem whash_ok (b : Nat) (s t : ByteArray) (w : World) (h1 : t.size = 16) (hs : s.size ≤ 1000000) (h : WrAt w b s) :
    Calls Tryz.prog 88 #[.pointer (some ⟨b, 0, none⟩), .string t] w fun e w' => e = .returned (.tuple #[]) ∧ WrAt w' b (s ++ t) ∧ Ch [b] w w' := by
  have H := Lib.hid h
  have hd : ((t.size : Int) == 16) = true := by simp; omega
  clear h
  go_enter Tryz.func88, Tryz.ntmps88
  go_wp2_with fail
  refine (wput_ok b s t 1 _ (by omega) H.out).mono ?_
  rintro e w' ⟨rfl, h2, h3⟩
  go_wp2
  go_end0
  exact ⟨rfl, h2, h3⟩
set_option maxHeartbeats 400000 in
theorem wnum_ok (b : Nat) (s : ByteArray) (n : Nat) (w : World) (h1 : n < 18446744073709551616) (hs : s.size ≤ 1000000) (h : WrAt w b s) :
    Calls Tryz.prog 118 #[.pointer (some ⟨b, 0, none⟩), .int .u64 n] w fun e w' => e = .returned (.tuple #[]) ∧ WrAt w' b (s ++ putB n) ∧ Ch [b] w w' := by
  have H := Lib.hid h
  clear h
  go_enter Tryz.func118, Tryz.ntmps118
  go_wp2_with fail
  refine (put_any n _ h1).mono ?_
  rintro e w1 ⟨rfl, hb⟩
  have HB := Lib.hid hb
  go_wp2_with fail
  refine (wput_ok b s _ 0 _ (by rw [putB_size]; omega) (Blk.bel H.out HB.out)).mono ?_
  rintro e w' ⟨rfl, h2, h3⟩
  go_wp2
  go_end0
  exact ⟨rfl, h2, (Ch.of_below HB.out _).trans h3⟩
set_option maxHeartbeats 400000 in
theorem wtext_ok (b : Nat) (s : ByteArray) (w : World) (h : WrAt w b s) :
    Calls Tryz.prog 90 #[.pointer (some ⟨b, 0, none⟩)] w fun e w' => e = .returned (.string s) ∧ w = w' := by
  have c0 : w.cell? ⟨b, 0, none⟩ = some (.string s) := Blk.cell h 0
  have c1 : w.cell? ⟨b, 1, none⟩ = some (.int .i64 0) := Blk.cell h 1
  clear h
  go_enter Tryz.func90, Tryz.ntmps90
  go_wp2
  go_ret
  exact ⟨rfl, rfl⟩
end Go.Proofs.YtjcinncphffgaaaGreat
namespace Go.Proofs.YtjcinncphffgaaaGreat
open Go.RowKit
def vouchB (ch : ByteArray) (n : Nat) : ByteArray := ByteArray.empty ++ strOfNums [86] ++ blobB ch ++ putB n
theorem vouchB_size (ch : ByteArray) (n : Nat) : (vouchB ch n).size = 11 + ch.size := by
  rw [vouchB, ByteArray.size_append, ByteArray.size_append, ByteArray.size_append, putB_size, blobB_size, num1_size]
  simp; omega
set_option maxRecDepth 100000 in
set_option maxHeartbeats 400000 in
theorem voucher_any (ch : ByteArray) (n : Nat) (w : World) (hc : ch.size ≤ 4096) (hn : n < 18446744073709551616) :
    Calls Tryz.prog 42 #[.string ch, .int .u64 n] w fun e w' => e = .returned (.string (vouchB ch n)) ∧ Below w.heap.size w w' := by
  unfold vouchB
  go_enter Tryz.func42, Tryz.ntmps42
  go_wp2_with fail
  refine (wbyte_ok w.heap.size ByteArray.empty 86 _ (by decide) (by decide) (by simp) (Blk.new _ _ _)).mono ?_
  rintro e w1 ⟨rfl, h1, k1⟩
  have HB1 : Hid (Below w.heap.size w w1) := ((Below.refl _ _).alloc (Nat.le_refl _) _).trans (k1.below (by simp) (by simp))
  clear k1
  have H1 := Lib.hid h1
  clear h1
  go_wp2_with fail
  refine (wblob_ok w.heap.size _ ch _ hc (by rw [ByteArray.size_append, num1_size]; simp) H1.out).mono ?_
  rintro e w2 ⟨rfl, h2, k2⟩
  have HB2 : Hid (Below w.heap.size w w2) := HB1.out.trans (k2.below HB1.out.size (by simp))
  clear k2
  have H2 := Lib.hid h2
  clear h2
  go_wp2_with fail
  refine (wnum_ok w.heap.size _ n _ hn (by rw [ByteArray.size_append, ByteArray.size_append, num1_size, blobB_size]; simp; omega) H2.out).mono ?_
  rintro e w3 ⟨rfl, h3, k3⟩
  have HB3 : Hid (Below w.heap.size w w3) := HB2.out.trans (k3.below HB2.out.size (by simp))
  clear k3
  have H3 := Lib.hid h3
  clear h3
  go_wp2_with fail
  refine (wtext_ok w.heap.size _ _ H3.out).mono ?_
  rintro e w4 ⟨rfl, rfl⟩
  go_wp2
  go_ret
  exact ⟨rfl, HB3.out⟩
def numsB (s : ByteArray) (l : List Nat) : ByteArray := l.foldl (fun a n => a ++ putB n) s
theorem numsB_snoc (s : ByteArray) (l : List Nat) (k : Nat) (h : k < l.length) : numsB s (l.take (k + 1)) = numsB s (l.take k) ++ putB l[k] := by
  unfold numsB
  rw [List.take_succ_eq_append_getElem h, List.foldl_append]; rfl
theorem numsB_size : ∀ (l : List Nat) (s : ByteArray), (numsB s l).size = s.size + 8 * l.length
  | [], s => rfl
  | a :: r, s => by
    show (numsB (s ++ putB a) r).size = _
    rw [numsB_size r, ByteArray.size_append, putB_size, List.length_cons]; omega
def cN (l : List Nat) : Array Value := (l.map fun (n : Nat) => Value.int .u64 (n : Int)).toArray
theorem cN_get (l : List Nat) (i : Nat) (h : i < l.length) : (cN l)[i]? = some (.int .u64 (l[i] : Nat)) := by simp [cN, h]
set_option maxRecDepth 100000 in
set_option maxHeartbeats 400000 in
theorem nums_any (b g c : Nat) (l : List Nat) (s : ByteArray) (w : World) (hl : l.length ≤ 1000) (hn : ∀ x ∈ l, x < 18446744073709551616) (hs : s.size ≤ 900000) (h : WrAt w b s) (hg : Blk w g 48 (cN l)) :
    Calls Tryz.prog 238 #[.pointer (some ⟨b, 0, none⟩), .slice (some ⟨g, 0, none⟩) l.length c] w fun e w' => e = .returned (.tuple #[]) ∧ WrAt w' b (numsB s l) ∧ Ch [b] w w' := by
  have hne : g ≠ b := Blk.ne_ hg h (by decide)
  have H := Lib.hid h
  have HG := Lib.hid hg
  clear h hg
  go_enter Tryz.func238, Tryz.ntmps238
  go_wp2
  go_loopw [8] (fun i wr => ∃ k : Nat, k ≤ l.length ∧ i = .int .i64 k ∧ Hid (WrAt wr b (numsB s (l.take k))) ∧ Hid (Ch [b] w wr)) (fun i _ => l.length - (intOf i).toNat)
  case atStart => exact ⟨0, Nat.zero_le _, rfl, H, Ch.refl _ _⟩
  case round =>
    obtain ⟨k, hk, rfl, HW, HC⟩ := hrel
    by_cases hlt : k < l.length
    · have c0 : wr.cell? ⟨g, k, none⟩ = some (.int .u64 (l[k] : Nat)) := by rw [Blk.cell (Blk.ch HG.out HC.out (by simpa using hne)), cN_get _ _ hlt]
      have hx := hn _ (List.getElem_mem hlt)
      have HS := Lib.hid (numsB_snoc s l k hlt)
      have hz := numsB_size (l.take k) s
      rw [List.length_take] at hz
      generalize l[k] = x at c0 hx HS
      go_wp2_with fail
      refine (wnum_ok b _ x _ hx (by omega) HW.out).mono ?_
      rintro e w1 ⟨rfl, h1, k1⟩
      have H1 := Lib.hid h1
      have K1 := Lib.hid k1
      clear h1 k1
      go_wp2
      go_roundw
      case rel => exact ⟨k + 1, by omega, by go_num, HS.out ▸ H1.out, HC.out.trans K1.out⟩
      case measure => simp [intOf]; omega
    · have hkl : k = l.length := by omega
      subst hkl
      rw [List.take_length] at HW
      go_wp2
      go_end0
      exact ⟨rfl, HW.out, HC.out⟩
end Go.Proofs.YtjcinncphffgaaaGreat
