/- Small words that all walks use: what a slice in memory reads as; endings. -/
import Derived.Test.YthmkoehocjfjgaaRows
import Derived.WalkKit
import Derived.WalkSpells
import Derived.WalkLawsBesides
import Derived.BigQuiet
import Derived.Deep.QuietTactic
import Derived.Lib.Hide
import Derived.Deep.LoopGhost
import Derived.Deep.AppendLies
import Derived.Deep.Draws
import Derived.Maps.AppendAt
import Derived.StillTailTactics
namespace Go.Proofs.Ythmkoehocjfjgaa
open Go.RowKit

theorem ret_int {k : IntKind} {a b : Int} (h : a = b) : Ending.returned (.int k a) = .returned (.int k b) := by rw [h]
theorem ret_ii {k k' : IntKind} {a b c d : Int} (h : a = b) (h' : c = d) : Ending.returned (.tuple #[.int k a, .int k' c]) = .returned (.tuple #[.int k b, .int k' d]) := by rw [h, h']
theorem ret_ib {k : IntKind} {a b : Int} {c d : Bool} (h : a = b) (h' : c = d) : Ending.returned (.tuple #[.int k a, .bool c]) = .returned (.tuple #[.int k b, .bool d]) := by rw [h, h']
theorem ret_bool {a b : Bool} (h : a = b) : Ending.returned (.bool a) = .returned (.bool b) := by rw [h]

/-- The slice with address A has the elements l, each of k cells, in a block below B. -/
def Sl {α : Type} (w : World) (B k : Nat) (enc : α → List Value) (A : Option Addr) (l : List α) : Prop :=
  l ≠ [] → ∃ b off, A = some ⟨b, off, none⟩ ∧ b < B ∧ ∀ i x, l[i]? = some x → ∀ j u, (enc x)[j]? = some u → w.cell? ⟨b, off + i * k + j, none⟩ = some u

section
variable {α : Type} {w w' : World} {B B' k : Nat} {enc : α → List Value} {A : Option Addr} {l : List α}
theorem Sl.nil (w : World) (B k : Nat) (enc : α → List Value) (A : Option Addr) : Sl w B k enc A [] := fun h => absurd rfl h
theorem Sl.keep (h : Sl w B k enc A l) (hk : ∀ p : Addr, p.block < B → w'.cell? p = w.cell? p) : Sl w' B k enc A l := fun hn => by
  obtain ⟨b, off, e, hb, hc⟩ := h hn
  exact ⟨b, off, e, hb, fun i x hx j u hu => (hk _ hb).trans (hc i x hx j u hu)⟩
theorem Sl.more (h : Sl w B k enc A l) (hB : B ≤ B') : Sl w B' k enc A l := fun hn => by
  obtain ⟨b, off, e, hb, hc⟩ := h hn
  exact ⟨b, off, e, by omega, hc⟩
theorem Sl.below (h : Sl w B k enc A l) (hb : Below B w w') : Sl w' B k enc A l := h.keep fun _ hp => hb.cell hp
theorem Sl.drewN (h : Sl w B k enc A l) (n : Nat) : Sl (w.drewN n) B k enc A l := h
theorem Sl.alloc (h : Sl w B k enc A l) (hB : B ≤ w.heap.size) (o : Obj) : Sl (w.alloc o) B k enc A l := h.keep fun p hp => World.cell?_alloc_lt w o p (by omega)
/-- The cells of element i. -/
theorem Sl.at_ (h : Sl w B k enc A l) {i : Nat} (hi : i < l.length) : ∃ b off, A = some ⟨b, off, none⟩ ∧ b < B ∧ ∀ j u, (enc l[i])[j]? = some u → w.cell? ⟨b, off + i * k + j, none⟩ = some u := by
  obtain ⟨b, off, e, hb, hc⟩ := h (by intro h0; subst h0; simp at hi)
  exact ⟨b, off, e, hb, fun j u hu => hc i _ (List.getElem?_eq_getElem hi) j u hu⟩
end
theorem addr_add0 (b i : Nat) : ((⟨b, 0, none⟩ : Addr).add i) = ⟨b, i, none⟩ := by
  unfold Addr.add; split
  · next h => rw [h]
  · simp
theorem flatMap_get {α β : Type} (enc : α → List β) (k : Nat) (hk : ∀ x, (enc x).length = k) : ∀ (l : List α) (i j : Nat) (x : α) (u : β), l[i]? = some x → (enc x)[j]? = some u → (l.flatMap enc)[i * k + j]? = some u
  | [], _, _, _, _, h, _ => by simp at h
  | y :: r, 0, j, x, u, h, hu => by
    simp at h; subst h
    have : j < (enc y).length := (List.getElem?_eq_some_iff.1 hu).1
    simp only [List.flatMap_cons, Nat.zero_mul, Nat.zero_add]
    rw [List.getElem?_append_left this, hu]
  | y :: r, i + 1, j, x, u, h, hu => by
    simp at h
    have e := hk y
    simp only [List.flatMap_cons]
    rw [List.getElem?_append_right (by rw [e, Nat.add_mul]; omega), e, show (i + 1) * k + j - k = i * k + j by rw [Nat.add_mul]; omega]
    exact flatMap_get enc k hk r i j x u h hu
theorem flatMap_len {α β : Type} (enc : α → List β) (k : Nat) (hk : ∀ x, (enc x).length = k) (l : List α) : (l.flatMap enc).length = l.length * k := by
  induction l with
  | nil => simp
  | cons y r ih => simp only [List.flatMap_cons, List.length_append, ih, hk, List.length_cons, Nat.add_mul]; omega
/-- A row of the call's own reads as a slice. -/
theorem Sl.of_own {α : Type} {w : World} {base k n c : Nat} {e : TypeId} {enc : α → List Value} {A : Option Addr} {l : List α} (hk : ∀ x, (enc x).length = k) (h : w.ownsRow base e k (.slice A n c) l.length (l.flatMap enc)) : Sl w w.heap.size k enc A l := fun hn => by
  have hl : 0 < l.length := List.length_pos_iff.2 hn
  obtain ⟨g, cap, hv, _, hlt⟩ := h.form hl
  have hA : A = some ⟨g, 0, none⟩ := by injection hv
  subst hA
  refine ⟨g, 0, rfl, hlt, fun i x hx j u hu => ?_⟩
  have := h.cells (g := g) rfl (i * k + j) u (flatMap_get enc k hk l i j x u hx hu)
  rw [addr_add0] at this
  simpa using this
/- quiet calls behind draws (howto/extra-small, section 2) -/
theorem quiet_add {P : Program} {f : FuncId} {args : Array Value} {w : World} {a n : Nat} {v : Value}
    (h : Calls P f args (w.drewN (a + n)) fun e w' => e = .returned v ∧ ∃ m, w' = (w.drewN (a + n)).drewN m) :
    Calls P f args (w.drewN (a + n)) fun e w'' => e = .returned v ∧ ∃ m, w'' = w.drewN (a + m) :=
  h.mono fun _ _ ⟨he, m, hm⟩ => ⟨he, n + m, by rw [hm, World.drewN_drewN, Nat.add_assoc]⟩
theorem quiet_add_left {P : Program} {f : FuncId} {args : Array Value} {w : World} {a n : Nat} {v : Value}
    (h : Calls P f args (w.drewN (a + n)) fun e w' => e = .returned v ∧ w.drewN (a + n) = w') :
    Calls P f args (w.drewN (a + n)) fun e w'' => e = .returned v ∧ ∃ m, w'' = w.drewN (a + m) :=
  h.mono fun _ _ ⟨he, hm⟩ => ⟨he, n, hm.symm⟩
/-- The cells of a block that was just made. -/
theorem news_alloc (w : World) (cs : Array Value) (e : TypeId) (news : List Value) (b : Nat) (h : cs.toList = news) (hb : b = w.heap.size) : ∀ j u, news[j]? = some u → (w.alloc (.cells cs e)).cell? ((⟨b, 0, none⟩ : Addr).add j) = some u := by
  intro j u hu
  subst hb h
  rw [addr_add0, World.cell?_alloc_at _ _ _ _ rfl]
  simpa using hu
end Go.Proofs.Ythmkoehocjfjgaa
