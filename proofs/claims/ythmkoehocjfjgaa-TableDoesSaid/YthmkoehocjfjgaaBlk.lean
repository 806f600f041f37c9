/- Blocks that are known whole; maps of texts; what keeps them. -/
import Derived.Test.YthmkoehocjfjgaaBase

import Derived.Maps.OwnSet
import Derived.Maps.StringElems
namespace Go.Proofs.Ythmkoehocjfjgaa
open Go.RowKit Go.Maps
def Blk (w : World) (g : Nat) (t : TypeId) (cs : Array Value) : Prop := w.heap[g]? = some (.cells cs t (0, 0))
section
variable {w w' : World} {g : Nat} {t : TypeId} {cs : Array Value}
theorem Blk.lt (h : Blk w g t cs) : g < w.heap.size := (Array.getElem?_eq_some_iff.1 h).1
theorem Blk.cell (h : Blk w g t cs) (i : Nat) : w.cell? ⟨g, i, none⟩ = cs[i]? := by unfold Blk at h; simp [World.cell?, h]
theorem Blk.frozen (h : Blk w g t cs) (i : Nat) : w.frozen? ⟨g, i, none⟩ = false := by unfold Blk at h; simp [World.frozen?, h]
theorem Blk.new (w : World) (t : TypeId) (cs : Array Value) : Blk (w.alloc (.cells cs t)) w.heap.size t cs := heap_alloc_new w _
theorem Blk.drewN (h : Blk w g t cs) (n : Nat) : Blk (w.drewN n) g t cs := h
theorem Blk.alloc (h : Blk w g t cs) (o : Obj) : Blk (w.alloc o) g t cs := (Below.heap_alloc w o g h.lt).trans h
theorem Blk.set_ (h : Blk w g t cs) (i : Nat) (u : Value) : Blk (w.setCell ⟨g, i, none⟩ u) g t (cs.setIfInBounds i u) := by
  unfold Blk at h ⊢
  simp [World.setCell, Array.getElem?_modify, h]
theorem Blk.far (h : Blk w g t cs) {p : Addr} (hp : g ≠ p.block) (u : Value) : Blk (w.setCell p u) g t cs := (Below.heap_setCell w p u g hp).trans h
theorem Blk.below {B : Nat} (h : Blk w g t cs) (hb : Below B w w') (hg : g < B) : Blk w' g t cs := (hb.block g hg).trans h
theorem Blk.bel (h : Blk w g t cs) (hb : Below w.heap.size w w') : Blk w' g t cs := h.below hb h.lt
theorem Blk.grown {row : Option Nat} (h : Blk w g t cs) (hb : w.grownBy w' row) (hg : some g ≠ row) : Blk w' g t cs := (hb.block g h.lt hg).trans h
theorem Blk.ne_ {g' : Nat} {t' : TypeId} {cs' : Array Value} (h : Blk w g t cs) (h' : Blk w g' t' cs') (hne : t ≠ t') : g ≠ g' := by
  rintro rfl
  unfold Blk at h h'
  rw [h] at h'
  injection h' with h'
  injection h' with _ ht
  exact hne ht
end
/-- w' is w but for the blocks S, and for new blocks -/
structure Ch (S : List Nat) (w w' : World) : Prop where
  os : w'.os = w.os
  tape : w'.tape = w.tape
  output : w'.output = w.output
  size : w.heap.size ≤ w'.heap.size
  block : ∀ k, k < w.heap.size → k ∉ S → w'.heap[k]? = w.heap[k]?
section
variable {w w' w2 : World} {S S' : List Nat}
theorem Ch.refl (S : List Nat) (w : World) : Ch S w w := ⟨rfl, rfl, rfl, Nat.le_refl _, fun _ _ _ => rfl⟩
theorem Ch.drewN (S : List Nat) (w : World) (n : Nat) : Ch S w (w.drewN n) := ⟨rfl, rfl, rfl, Nat.le_refl _, fun _ _ _ => rfl⟩
theorem Ch.trans (h : Ch S w w') (k : Ch S w' w2) : Ch S w w2 :=
  ⟨k.os.trans h.os, k.tape.trans h.tape, k.output.trans h.output, Nat.le_trans h.size k.size, fun i hi hn => (k.block i (Nat.lt_of_lt_of_le hi h.size) hn).trans (h.block i hi hn)⟩
theorem Ch.mono (h : Ch S w w') (hs : ∀ b ∈ S, b ∈ S' ∨ w.heap.size ≤ b) : Ch S' w w' :=
  ⟨h.os, h.tape, h.output, h.size, fun i hi hn => h.block i hi (fun hm => by
    rcases hs i hm with h1 | h1
    · exact hn h1
    · omega)⟩
theorem Ch.of_below (h : Below w.heap.size w w') (S : List Nat) : Ch S w w' := ⟨h.os, h.tape, h.output, h.size, fun i hi _ => h.block i hi⟩
theorem Ch.of_grown {b : Nat} (h : w.grownBy w' (some b)) : Ch [b] w w' := ⟨h.os, h.tape, h.output, h.size, fun i hi hn => h.block i hi (fun e => hn (by injection e with e; simp [e]))⟩
theorem Ch.below {B : Nat} (h : Ch S w w') (hB : B ≤ w.heap.size) (hs : ∀ b ∈ S, B ≤ b) : Below B w w' :=
  ⟨h.os, h.tape, h.output, h.size, fun i hi => h.block i (by omega) (fun hm => by have := hs i hm; omega)⟩
theorem Ch.alloc (S : List Nat) (w : World) (o : Obj) : Ch S w (w.alloc o) := Ch.of_below ((Below.refl _ _).alloc (Nat.le_refl _) o) S
theorem Ch.set_ {b : Nat} (hb : b ∈ S) (w : World) (i : Nat) (u : Value) : Ch S w (w.setCell ⟨b, i, none⟩ u) :=
  ⟨rfl, rfl, rfl, by simp [World.setCell], fun k _ hn => Below.heap_setCell w ⟨b, i, none⟩ u k (fun e => hn (by rw [e]; exact hb))⟩
theorem Ch.heap {g : Nat} {o : Obj} (h : Ch S w w') (hg : w.heap[g]? = some o) (hn : g ∉ S) : w'.heap[g]? = some o := (h.block g (Array.getElem?_eq_some_iff.1 hg).1 hn).trans hg
theorem Ch.grown (h : Ch S w w') {b : Nat} (hs : ∀ g ∈ S, g = b ∨ w.heap.size ≤ g) : w.grownBy w' (some b) :=
  ⟨h.os, h.tape, h.output, h.size, fun i hi hn => h.block i hi (fun hm => by
    rcases hs i hm with h1 | h1
    · exact hn (by rw [h1])
    · omega)⟩
theorem Blk.ch {g : Nat} {t : TypeId} {cs : Array Value} (h : Blk w g t cs) (hc : Ch S w w') (hn : g ∉ S) : Blk w' g t cs := hc.heap h hn
theorem Ch.owns {base : Nat} {e : TypeId} {size n : Nat} {v : Value} {xs : List Value} (hc : Ch S w w') (h : w.ownsRow base e size v n xs) (hn : ∀ b, v.ownBlock = some b → b ∉ S) : w'.ownsRow base e size v n xs := by
  obtain ⟨h1, h2⟩ := h
  refine ⟨h1, ?_⟩
  rcases h2 with h2 | ⟨g, cap, cur, rfl, hb, hh, r⟩
  · exact .inl h2
  · exact .inr ⟨g, cap, cur, rfl, hb, hc.heap hh (hn g rfl), r⟩
theorem Ch.map {H : Type} {P : Program} {k : TypeId} {R : Value → Option (DataW H × List MemPlace)} {b n : Nat} {D : DataW H} (hc : Ch S w w') (h : w.ownsMap P k R b n D) (hn : b ∉ S) : w'.ownsMap P k R b n D := by
  obtain ⟨es, clock, hb, r⟩ := h
  exact ⟨es, clock, hc.heap hb hn, r⟩
theorem Sl.ch {α : Type} {B k : Nat} {enc : α → List Value} {A : Option Addr} {l : List α} (h : Sl w B k enc A l) (hc : Ch S w w') (hB : B ≤ w.heap.size) (hn : ∀ b ∈ S, B ≤ b) : Sl w' B k enc A l := h.below (hc.below hB hn)
end
end Go.Proofs.Ythmkoehocjfjgaa
