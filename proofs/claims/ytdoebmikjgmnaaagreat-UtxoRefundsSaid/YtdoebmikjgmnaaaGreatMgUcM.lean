/- howto/extra-words, sections 1 and 3 (a slice that reads as a list, nil let in; append of whatever source), and what joins them to Sl. append as a step of a region that draws: what is appended to, and what is appended, taken out of the frame. The element of a row of the call's own. UtxoRefunds: the walk. -/
import Derived.RegionTactic
import Derived.OwnWalk
import Derived.Outline
import Derived.Test.YtdoebmikjgmnaaaGreatMgG00
import Derived.Test.YtdoebmikjgmnaaaGreatMgG04
import Derived.Test.YtdoebmikjgmnaaaGreatMgUcL
set_option linter.unusedVariables false
set_option linter.unusedSimpArgs false
namespace Go.Proofs.YtdoebmikjgmnaaaGreat
open Go.RowKit
theorem block_of_add (a : Addr) (n : Nat) : (a.add n).block = a.block := by unfold Addr.add; split <;> rfl
theorem add_of_add (a : Addr) (i j : Nat) : (a.add i).add j = a.add (i + j) := by
  unfold Addr.add
  by_cases hi : i = 0 <;> by_cases hj : j = 0 <;> simp [hi, hj, Nat.add_assoc]

def Reads (w : World) (B size : Nat) (A : Option Addr) (n : Nat) (xs : List Value) : Prop :=
  xs.length = n * size ∧ (0 < n → ∃ ad, A = some ad ∧ ad.block < B ∧ ∀ j u, xs[j]? = some u → w.cell? (ad.add j) = some u)

section
variable {w w' : World} {B B' size n : Nat} {A : Option Addr} {xs : List Value}
theorem Reads.none_ : Reads w B size A 0 [] := ⟨by simp, fun h => absurd h (by omega)⟩
theorem Reads.at_ {k : Nat} (h : Reads w B 1 A n xs) (hk : k < n) : ∃ ad u, A = some ad ∧ ad.block < B ∧ xs[k]? = some u ∧ w.cell? (ad.add k) = some u := by
  obtain ⟨ad, e, hb, hc⟩ := h.2 (by omega)
  have hl : k < xs.length := by have := h.1; omega
  exact ⟨ad, xs[k], e, hb, List.getElem?_eq_getElem hl, hc k _ (List.getElem?_eq_getElem hl)⟩
theorem Reads.keep (h : Reads w B size A n xs) (hk : ∀ p : Addr, p.block < B → w'.cell? p = w.cell? p) : Reads w' B size A n xs :=
  ⟨h.1, fun hn => by
    obtain ⟨ad, e, hb, hc⟩ := h.2 hn
    exact ⟨ad, e, hb, fun j u hu => (hk _ (by rw [block_of_add]; exact hb)).trans (hc j u hu)⟩⟩
theorem Reads.more (h : Reads w B size A n xs) (hB : B ≤ B') : Reads w B' size A n xs :=
  ⟨h.1, fun hn => by
    obtain ⟨ad, e, hb, hc⟩ := h.2 hn
    exact ⟨ad, e, by omega, hc⟩⟩
theorem Reads.below (h : Reads w B size A n xs) (hb : Below B w w') : Reads w' B size A n xs := h.keep fun _ hp => hb.cell hp
theorem Reads.drew (h : Reads w B size A n xs) : Reads w.drew B size A n xs := h
theorem Reads.drewN (h : Reads w B size A n xs) (k : Nat) : Reads (w.drewN k) B size A n xs := h
theorem Reads.alloc (h : Reads w B size A n xs) (hB : B ≤ w.heap.size) (o : Obj) : Reads (w.alloc o) B size A n xs := h.keep fun p hp => World.cell?_alloc_lt w o p (by omega)
theorem Reads.setCell (h : Reads w B size A n xs) {p : Addr} (hB : B ≤ p.block) (u : Value) : Reads (w.setCell p u) B size A n xs :=
  h.keep fun q hq => World.cell?_setCell_other w p q u (fun e => by subst e; omega)
theorem Reads.grown (h : Reads w B size A n xs) {row : Option Nat} (hg : w.grownBy w' row) (hB : B ≤ w.heap.size) (hr : ∀ g, row = some g → B ≤ g) : Reads w' B size A n xs :=
  h.keep fun p hp => World.cell?_of_block (hg.block p.block (by omega) (fun e => by have := hr _ e.symm; omega))
theorem Reads.cut (h : Reads w B size A n xs) {k cap : Nat} (hk : k ≤ n) (hc : n ≤ cap) :
    Reads w B size (if cap = k then A else A.map (·.add (k * size))) (n - k) (xs.drop (k * size)) := by
  refine ⟨by rw [List.length_drop, h.1, Nat.sub_mul], fun hn => ?_⟩
  obtain ⟨ad, rfl, hb, hcell⟩ := h.2 (by omega)
  rw [if_neg (by omega)]
  refine ⟨ad.add (k * size), rfl, by rw [block_of_add]; exact hb, fun j u hu => ?_⟩
  rw [add_of_add]
  exact hcell _ u (by rw [← hu, List.getElem?_drop])
theorem Reads.of_own {base : Nat} {e : TypeId} {c : Nat} (h : w.ownsRow base e size (.slice A n c) n xs) : Reads w w.heap.size size A n xs := by
  refine ⟨h.1, fun hn => ?_⟩
  obtain ⟨g, cap, hv, _, hlt⟩ := h.form hn
  have hA : A = some ⟨g, 0, none⟩ := by injection hv
  subst hA
  exact ⟨_, rfl, hlt, h.cells (g := g) rfl⟩
end
section
variable {P : Program} (w : World)

theorem run_append_of_nil (base : Nat) (t ty e : TypeId) (i : TypeInfo) (size : Nat) (ht : P.underlying t = some (.slice e)) (hi : P.info? e = some i)
    (v : Value) (n : Nat) (xs : List Value) (hown : w.ownsRow base e size v n xs) (c : Nat) : (Builtin.append_ #[t, t] ty #[v, .slice none 0 c]).run P w = .ok v w := by
  rcases hown.2 with ⟨rfl, rfl⟩ | ⟨g, cap, cur, rfl, _, _, hnc, _⟩
  · simp [Builtin.append_, run_underlying ht, sizeOf, typeInfo, hi, Builtin.lenOf, Builtin.firstCells]
  · simp [Builtin.append_, run_underlying ht, sizeOf, typeInfo, hi, Builtin.lenOf, Builtin.firstCells, hnc, storeCells]

theorem run_append_any (base : Nat) (t ty e : TypeId) (i : TypeInfo) (z : Value) (size bytes : Nat) (ht : P.underlying t = some (.slice e)) (hi : P.info? e = some i) (hz : i.zero = some z)
    (hsize : i.size = size) (hby : i.bytes = bytes) (hzs : z.cells.size = size) (hsz : 0 < size)
    (v : Value) (n : Nat) (xs : List Value) (hown : w.ownsRow base e size v n xs)
    (B : Nat) (A : Option Addr) (m c : Nat) (news : List Value) (hr : Reads w B size A m news) (h1 : ∀ u ∈ news, u.oneCell' = true)
    (h63 : n + m ≤ maxLen) (hbytes : (n + m) * bytes ≤ 140737488355328) (hbase : base ≤ w.heap.size) :
    ∃ v' w', (Builtin.append_ #[t, t] ty #[v, .slice A m c]).run P w = .ok v' w' ∧ w'.ownsRow base e size v' (n + m) (xs ++ news) ∧ w.grownBy w' v.ownBlock ∧
      (v'.ownBlock = v.ownBlock ∨ v'.ownBlock = some w.heap.size) := by
  rcases A with _ | ad
  · have hm : m = 0 := by
      rcases Nat.eq_zero_or_pos m with h0 | h0
      · exact h0
      · obtain ⟨ad, h, _⟩ := hr.2 h0
        cases h
    subst hm
    have hn : news = [] := List.eq_nil_of_length_eq_zero (by simpa using hr.1)
    subst hn
    exact ⟨v, w, run_append_of_nil w base t ty e i size ht hi v n xs hown c, by simpa using hown, World.grownBy.refl w _, .inl rfl⟩
  · have hcells : ∀ j u, news[j]? = some u → w.cell? (ad.add j) = some u := by
      intro j u hu
      rcases Nat.eq_zero_or_pos m with h0 | h0
      · subst h0
        have hn : news = [] := List.eq_nil_of_length_eq_zero (by simpa using hr.1)
        subst hn
        simp at hu
      · obtain ⟨ad', h, _, hc⟩ := hr.2 h0
        injection h with h
        subst h
        exact hc j u hu
    obtain ⟨v', w', hrun, h2, h3, _, h5⟩ := run_append_own_at (P := P) w base t ty e i z size bytes ht hi hz hsize hby hzs hsz v n xs hown ad m c news hr.1 hcells h1 h63 hbytes hbase
    exact ⟨v', w', hrun, h2, h3, h5⟩

theorem wp_append_any {o : Oper} {a : Act} {K : Act → World → Prop} {Q : Exit → Act → World → Prop} (s x : Operand) (t : TypeId)
    (ho : o.op = .call { callee := .builtin .append, args := #[s, x], argTypes := #[t, t] })
    (base : Nat) (e : TypeId) (i : TypeInfo) (z : Value) (size bytes : Nat) (ht : P.underlying t = some (.slice e)) (hi : P.info? e = some i) (hz : i.zero = some z)
    (hsize : i.size = size) (hby : i.bytes = bytes) (hzs : z.cells.size = size) (hsz : 0 < size)
    (v : Value) (n : Nat) (xs : List Value) (hs : a.eval s = v) (hown : w.ownsRow base e size v n xs)
    (B : Nat) (A : Option Addr) (m c : Nat) (news : List Value) (hx : a.eval x = .slice A m c) (hr : Reads w B size A m news) (h1 : ∀ u ∈ news, u.oneCell' = true)
    (h63 : n + m ≤ maxLen) (hbytes : (n + m) * bytes ≤ 140737488355328) (hbase : base ≤ w.heap.size)
    (h : ∀ v' w', w'.ownsRow base e size v' (n + m) (xs ++ news) → w.grownBy w' v.ownBlock → (v'.ownBlock = v.ownBlock ∨ v'.ownBlock = some w.heap.size) → K (a.put o.dst v') w') : o.wp P a w K Q := by
  obtain ⟨v', w', hrun, h2, h3, h4⟩ := run_append_any (P := P) w base t o.type e i z size bytes ht hi hz hsize hby hzs hsz v n xs hown B A m c news hr h1 h63 hbytes hbase
  unfold Oper.wp execOp
  simp only [ho, resolve, invoke, builtin, Sem.run_bind, Sem.run_pure, Result.andThen_ok, List.map_toArray, List.map_cons, List.map_nil, hs, hx, hrun]
  exact h v' w' h2 h3 h4

theorem wpList_append_any {ops : Array Oper} {rest : List Oper} {o : Oper} {a : Act} {Q : Exit → Act → World → Prop} (hgd : o.guard = none) (s x : Operand) (t : TypeId)
    (ho : o.op = .call { callee := .builtin .append, args := #[s, x], argTypes := #[t, t] })
    (base : Nat) (e : TypeId) (i : TypeInfo) (z : Value) (size bytes : Nat) (ht : P.underlying t = some (.slice e)) (hi : P.info? e = some i) (hz : i.zero = some z)
    (hsize : i.size = size) (hby : i.bytes = bytes) (hzs : z.cells.size = size) (hsz : 0 < size)
    (v : Value) (n : Nat) (xs : List Value) (hs : a.eval s = v) (hown : w.ownsRow base e size v n xs)
    (B : Nat) (A : Option Addr) (m c : Nat) (news : List Value) (hx : a.eval x = .slice A m c) (hr : Reads w B size A m news) (h1 : ∀ u ∈ news, u.oneCell' = true)
    (h63 : n + m ≤ maxLen) (hbytes : (n + m) * bytes ≤ 140737488355328) (hbase : base ≤ w.heap.size)
    (h : ∀ v' w', w'.ownsRow base e size v' (n + m) (xs ++ news) → w.grownBy w' v.ownBlock → (v'.ownBlock = v.ownBlock ∨ v'.ownBlock = some w.heap.size) → wpList P ops Q rest (a.put o.dst v') w') : wpList P ops Q (o :: rest) a w :=
  wpList_plain hgd fun _ hK => wp_append_any w s x t ho base e i z size bytes ht hi hz hsize hby hzs hsz v n xs hs hown B A m c news hx hr h1 h63 hbytes hbase fun v' w' h2 h3 h4 => hK _ _ (h v' w' h2 h3 h4)

theorem step_append_any {ops : Array Oper} {o : Oper} {a : Act} {K : Act → World → Prop} {Q : Exit → Act → World → Prop} {E : Prop} (hgd : o.guard = none) (s x : Operand) (t : TypeId)
    (ho : o.op = .call { callee := .builtin .append, args := #[s, x], argTypes := #[t, t] })
    (base : Nat) (e : TypeId) (i : TypeInfo) (z : Value) (size bytes : Nat) (ht : P.underlying t = some (.slice e)) (hi : P.info? e = some i) (hz : i.zero = some z)
    (hsize : i.size = size) (hby : i.bytes = bytes) (hzs : z.cells.size = size) (hsz : 0 < size)
    (v : Value) (n : Nat) (xs : List Value) (hs : a.eval s = v) (hown : w.ownsRow base e size v n xs)
    (B : Nat) (A : Option Addr) (m c : Nat) (news : List Value) (hx : a.eval x = .slice A m c) (hr : Reads w B size A m news) (h1 : ∀ u ∈ news, u.oneCell' = true)
    (h63 : n + m ≤ maxLen) (hbytes : (n + m) * bytes ≤ 140737488355328) (hbase : base ≤ w.heap.size)
    (h : ∀ v' w', w'.ownsRow base e size v' (n + m) (xs ++ news) → w.grownBy w' v.ownBlock → (v'.ownBlock = v.ownBlock ∨ v'.ownBlock = some w.heap.size) → K (a.put o.dst v') w') :
    if Region.wanted o (yielded ops a.tmps) = true then Oper.wp P o a w K Q else E := by
  have hw : Region.wanted o (yielded ops a.tmps) = true := by simp [Region.wanted, hgd]
  rw [if_pos hw]
  exact wp_append_any w s x t ho base e i z size bytes ht hi hz hsize hby hzs hsz v n xs hs hown B A m c news hx hr h1 h63 hbytes hbase h
end
theorem flatMap_get_inv {α β : Type} (enc : α → List β) (k : Nat) (hk : ∀ x, (enc x).length = k) : ∀ (l : List α) (j : Nat) (u : β), (l.flatMap enc)[j]? = some u → ∃ i r x, j = i * k + r ∧ l[i]? = some x ∧ (enc x)[r]? = some u
  | [], j, u, h => by simp at h
  | y :: s, j, u, h => by
    have e := hk y
    simp only [List.flatMap_cons] at h
    by_cases hj : j < k
    · rw [List.getElem?_append_left (by omega)] at h
      exact ⟨0, j, y, by simp, rfl, h⟩
    · rw [List.getElem?_append_right (by omega), e] at h
      obtain ⟨i, r, x, h1, h2, h3⟩ := flatMap_get_inv enc k hk s (j - k) u h
      exact ⟨i + 1, r, x, by rw [Nat.add_mul]; omega, h2, h3⟩
theorem Reads.of_sl {α : Type} {w : World} {B k : Nat} {enc : α → List Value} {A : Option Addr} {l : List α} (hk : ∀ x, (enc x).length = k) (h : Sl w B k enc A l) : Reads w B k A l.length (l.flatMap enc) := by
  refine ⟨flatMap_len enc k hk l, fun hn => ?_⟩
  obtain ⟨b, off, rfl, hb, hc⟩ := h (List.length_pos_iff.1 hn)
  refine ⟨_, rfl, hb, fun j u hu => ?_⟩
  obtain ⟨i, r, x, rfl, hx, hr⟩ := flatMap_get_inv enc k hk l j u hu
  have e : (⟨b, off, none⟩ : Addr).add (i * k + r) = ⟨b, off + i * k + r, none⟩ := by unfold Addr.add; split <;> simp_all [Nat.add_assoc]
  rw [e]; exact hc i x hx r u hr
/-- the slice in a world one block on -/
theorem Sl.al {α : Type} {w : World} {k : Nat} {enc : α → List Value} {A : Option Addr} {l : List α} (h : Sl w w.heap.size k enc A l) (o : Obj) : Sl (w.alloc o) (w.alloc o).heap.size k enc A l := (h.alloc (Nat.le_refl _) o).more (by simp)
theorem Sl.bel {α : Type} {w w' : World} {k : Nat} {enc : α → List Value} {A : Option Addr} {l : List α} (h : Sl w w.heap.size k enc A l) (hb : Below w.heap.size w w') : Sl w' w'.heap.size k enc A l := (h.below hb).more hb.size
end Go.Proofs.YtdoebmikjgmnaaaGreat
namespace Go.Proofs.YtdoebmikjgmnaaaGreat
open Go.RowKit
section
variable {P : Program} (w : World)
/-- as step_append_any; behind it what was owned is at hand too -/
theorem step_append_k {ops : Array Oper} {o : Oper} {a : Act} {K : Act → World → Prop} {Q : Exit → Act → World → Prop} {E : Prop} (hgd : o.guard = none) (s x : Operand) (t : TypeId)
    (ho : o.op = .call { callee := .builtin .append, args := #[s, x], argTypes := #[t, t] })
    (base : Nat) (e : TypeId) (i : TypeInfo) (z : Value) (size bytes : Nat) (ht : P.underlying t = some (.slice e)) (hi : P.info? e = some i) (hz : i.zero = some z)
    (hsize : i.size = size) (hby : i.bytes = bytes) (hzs : z.cells.size = size) (hsz : 0 < size)
    (v : Value) (n : Nat) (xs : List Value) (hs : a.eval s = v) (hown : w.ownsRow base e size v n xs)
    (B : Nat) (A : Option Addr) (m c : Nat) (news : List Value) (hx : a.eval x = .slice A m c) (hr : Reads w B size A m news) (h1 : ∀ u ∈ news, u.oneCell' = true)
    (h63 : n + m ≤ maxLen) (hbytes : (n + m) * bytes ≤ 140737488355328) (hbase : base ≤ w.heap.size)
    (h : ∀ v' w', w.ownsRow base e size v n xs → w'.ownsRow base e size v' (n + m) (xs ++ news) → w.grownBy w' v.ownBlock → K (a.put o.dst v') w') :
    if Region.wanted o (yielded ops a.tmps) = true then Oper.wp P o a w K Q else E :=
  step_append_any w hgd s x t ho base e i z size bytes ht hi hz hsize hby hzs hsz v n xs hs hown B A m c news hx hr h1 h63 hbytes hbase (fun v' w' h2 h3 _ => h v' w' hown h2 h3)
theorem reads_box {w : World} {g : Nat} {cs : Array Value} {e : TypeId} {k n : Nat} (h : w.heap[g]? = some (.cells cs e (0, 0))) (hl : cs.size = n * k) : Reads w (g + 1) k (some ⟨g, 0, none⟩) n cs.toList :=
  ⟨by rw [Array.length_toList]; exact hl, fun _ => ⟨_, rfl, Nat.lt_succ_self _, fun j u hu => by
    rw [addr_add0]
    simp only [World.cell?, h, Option.isSome_none, Bool.false_eq_true, if_false]
    rw [← Array.getElem?_toList]; exact hu⟩⟩
/-- what is appended lies in a block of its own -/
theorem step_append_box {ops : Array Oper} {o : Oper} {a : Act} {K : Act → World → Prop} {Q : Exit → Act → World → Prop} {E : Prop} (hgd : o.guard = none) (s x : Operand) (t : TypeId)
    (ho : o.op = .call { callee := .builtin .append, args := #[s, x], argTypes := #[t, t] })
    (base : Nat) (e : TypeId) (i : TypeInfo) (z : Value) (size bytes : Nat) (ht : P.underlying t = some (.slice e)) (hi : P.info? e = some i) (hz : i.zero = some z)
    (hsize : i.size = size) (hby : i.bytes = bytes) (hzs : z.cells.size = size) (hsz : 0 < size)
    (v : Value) (n : Nat) (xs : List Value) (hs : a.eval s = v) (hown : w.ownsRow base e size v n xs)
    (g m c : Nat) (cs : Array Value) (e2 : TypeId) (hx : a.eval x = .slice (some ⟨g, 0, none⟩) m c) (hr : w.heap[g]? = some (.cells cs e2 (0, 0))) (hl : cs.size = m * size) (h1 : ∀ u ∈ cs.toList, u.oneCell' = true)
    (h63 : n + m ≤ maxLen) (hbytes : (n + m) * bytes ≤ 140737488355328) (hbase : base ≤ w.heap.size)
    (h : ∀ v' w', w.ownsRow base e size v n xs → w'.ownsRow base e size v' (n + m) (xs ++ cs.toList) → w.grownBy w' v.ownBlock → K (a.put o.dst v') w') :
    if Region.wanted o (yielded ops a.tmps) = true then Oper.wp P o a w K Q else E :=
  step_append_any w hgd s x t ho base e i z size bytes ht hi hz hsize hby hzs hsz v n xs hs hown (g + 1) (some ⟨g, 0, none⟩) m c cs.toList hx (reads_box hr hl) h1 h63 hbytes hbase (fun v' w' h2 h3 _ => h v' w' hown h2 h3)
end
end Go.Proofs.YtdoebmikjgmnaaaGreat
namespace Go.Proofs.YtdoebmikjgmnaaaGreat
open Go.RowKit
theorem own_atA {α : Type} {enc : α → List Value} {k : Nat} (hk : ∀ x, (enc x).length = k) {w : World} {base c : Nat} {e : TypeId} {A : Option Addr} {l : List α} (h : w.ownsRow base e k (.slice A l.length c) l.length (l.flatMap enc)) (i : Nat) (hi : i < l.length) :
    ∃ g cur, A = some ⟨g, 0, none⟩ ∧ base ≤ g ∧ Blk w g e cur ∧ cur.extract (i * k) (i * k + k) = (enc l[i]).toArray ∧ i * k + k ≤ cur.size := by
  have h0 := h
  obtain ⟨_, h | ⟨g, cap, cur, hv, h1, h2, h3, h4, h5, h6⟩⟩ := h
  · omega
  · injection hv with hA _ _
    have hle : (i + 1) * k ≤ cap * k := Nat.mul_le_mul_right k (by omega)
    rw [Nat.add_mul, Nat.one_mul] at hle
    refine ⟨g, cur, hA, h1, h2, ?_, by omega⟩
    apply Array.ext'
    apply List.ext_getElem?
    intro j
    have hlen : (enc l[i]).length = k := hk _
    by_cases hj : j < k
    · have e1 : (l.flatMap enc)[i * k + j]? = (enc l[i])[j]? := (flatMap_get enc k hk l i j l[i] (enc l[i])[j] (List.getElem?_eq_getElem hi) (List.getElem?_eq_getElem (by omega))).trans (List.getElem?_eq_getElem (by omega)).symm
      rw [Array.toList_extract, List.extract_eq_take_drop]
      have e2 : cur.toList[i * k + j]? = (l.flatMap enc)[i * k + j]? := by
        rw [← h6, List.getElem?_take_of_lt]
        have : (i + 1) * k ≤ l.length * k := Nat.mul_le_mul_right k (by omega)
        rw [Nat.add_mul, Nat.one_mul] at this
        omega
      rw [List.getElem?_take_of_lt (by omega), List.getElem?_drop, e2, e1]
    · rw [List.getElem?_eq_none (by simp [List.extract_eq_take_drop]; omega), List.getElem?_eq_none (by simp; omega)]
end Go.Proofs.YtdoebmikjgmnaaaGreat
namespace Go.Proofs.YtdoebmikjgmnaaaGreat
open Go.RowKit Go.Maps
theorem flat_in1 (l : List Inp) : ∀ u ∈ l.flatMap Inp.cl, u.oneCell' = true := fun u hu => by
  obtain ⟨i, _, hi⟩ := List.mem_flatMap.1 hu
  exact Array.all_eq_true'.1 (incs_one i) u (by simpa [Inp.cl] using hi)
theorem blk_farM {W : World} {B base size n : Nat} {t e : TypeId} {cs : Array Value} {v : Value} {xs : List Value} (h : Blk W B t cs) (hr : W.ownsRow base e size v n xs) (hte : t ≠ e) : some B ≠ v.ownBlock := fun q => h.kdT.own_ne hr hte B q.symm (by simp)
/-- a copy without proof -/
def bareT (t : Txn) (A : Option Addr) (c : Nat) (l : List Inp) : Txn := ⟨A, l, c, t.B, t.outs, t.d, noPf⟩
def unS : List Inp → List Inp
  | [] => []
  | i :: r => { i with sig := ByteArray.empty } :: r
theorem unS_len : ∀ l, (unS l).length = l.length
  | [] => rfl
  | _ :: _ => rfl
theorem unS_no : ∀ l, (unS l).map noSig = l.map noSig
  | [] => rfl
  | _ :: _ => rfl
theorem unS_sz {l : List Inp} (h : ∀ i ∈ l, i.sig.size ≤ 400) : ∀ i ∈ unS l, i.sig.size ≤ 400 := by
  cases l with
  | nil => intro i hi; cases hi
  | cons x r =>
    intro i hi
    rcases List.mem_cons.1 hi with rfl | hi
    · exact Nat.zero_le _
    · exact h i (by simp [hi])
theorem sl_unS {W : World} {gg : Nat} {cur : Array Value} {l : List Inp} (hb : Blk W gg 64 cur) (h : Sl W W.heap.size 4 Inp.cl (some ⟨gg, 0, none⟩) l) (h0 : 0 < l.length) :
    Sl (W.setCell ⟨gg, 3, none⟩ (.string ByteArray.empty)) (W.setCell ⟨gg, 3, none⟩ (.string ByteArray.empty)).heap.size 4 Inp.cl (some ⟨gg, 0, none⟩) (unS l) := fun _ => by
  have hb2 := hb.set_ 3 (.string ByteArray.empty)
  obtain ⟨b, off, hA, hlt, hc⟩ := h (List.length_pos_iff.1 h0)
  injection hA with hA
  injection hA with e1 e2
  subst e1 e2
  have hold : ∀ i x, l[i]? = some x → ∀ j u, x.cl[j]? = some u → cur[i * 4 + j]? = some u := fun i x hx j u hu => by
    have := hc i x hx j u hu
    rw [hb.cell, Nat.zero_add] at this
    exact this
  refine ⟨gg, 0, rfl, hb2.lt, fun i x hx j u hu => ?_⟩
  rw [hb2.cell, Nat.zero_add, Array.getElem?_setIfInBounds]
  have hj4 : j < 4 := by have := (List.getElem?_eq_some_iff.1 hu).1; exact this
  cases l with
  | nil => cases h0
  | cons y r =>
    cases i with
    | zero =>
      injection hx with hx
      subst hx
      have h3 := hold 0 y rfl 3 _ rfl
      have hs : 3 < cur.size := (Array.getElem?_eq_some_iff.1 (by simpa using h3)).1
      by_cases hj : j = 3
      · subst hj
        rw [if_pos (by omega), if_pos hs]
        exact hu
      · rw [if_neg (by omega)]
        refine hold 0 y rfl j u ?_
        match j, hj, hj4, hu with
        | 0, _, _, hu => exact hu
        | 1, _, _, hu => exact hu
        | 2, _, _, hu => exact hu
        | 3, hj, _, _ => exact absurd rfl hj
        | j + 4, _, h4, _ => omega
    | succ i =>
      rw [if_neg (by omega)]
      exact hold (i + 1) x hx j u hu
theorem Tryz.infoInM : (Tryz.prog.info? 64).map (fun i => (i.zero, i.size, i.bytes)) = some (some (.agg zInp.cs), 4, 48) := by kernel_rfl
def bxU2 (a b : Nat) : Array Value := #[.int .u32 (a : Int), .int .u32 (b : Int)]
def bxH2 (x y : Nat) : Array Value := #[.int .u16 (x : Int), .int .u16 (y : Int)]
set_option maxRecDepth 100000 in
set_option maxHeartbeats 1000000 in
theorem urefunds_any (s : ByteArray) (a b x0 y0 : Nat) (w0 : World) (hs : s.size ≤ maxLen) (ha : a < 4294967296) (hb : b < 4294967296) (hx : x0 < 65536) (hy : y0 < 65536) :
    Calls Tryz.prog 4 #[.string s, .agg #[.int .u32 (a : Int), .int .u32 (b : Int)], .agg #[.int .u16 (x0 : Int), .int .u16 (y0 : Int)]] w0 fun e w' => e = .returned (.bool true) ∧ Below w0.heap.size w0 w' := by
  unfold maxLen at hs
  go_enter Tryz.func4, Tryz.ntmps4
  go_upto_region 2 with fail
  have hsz : (s.extract 0 (min (s.size : Int) 50).toNat).size ≤ 50 := by rw [ByteArray.size_extract]; omega
  generalize s.extract 0 (min (s.size : Int) 50).toNat = sd at hsz ⊢
  obtain ⟨W0, hW0⟩ : ∃ W, W = (w0.alloc (.cells (bxU2 a b) 60)).alloc (.cells (bxH2 x0 y0) 62) := ⟨_, rfl⟩
  have HX2 : Hid (Blk W0 w0.heap.size 60 (bxU2 a b)) := Lib.hid (by rw [hW0]; exact (Blk.new _ _ _).alloc _)
  have HX3 : Hid (Blk W0 (w0.heap.size + 1) 62 (bxH2 x0 y0)) := Lib.hid (by rw [hW0]; exact Blk.newAt (by simp))
  have HB : Hid (Below w0.heap.size w0 W0) := Lib.hid (by rw [hW0]; exact ((Below.refl _ _).alloc (Nat.le_refl _) _).alloc (by simp) _)
  unfold bxU2 at HX2 hW0
  unfold bxH2 at HX3 hW0
  have hzc : (sd ++ (⟨#[99]⟩ : ByteArray)).size ≤ 1000000 := by rw [ByteArray.size_append]; show sd.size + 1 ≤ _; omega
  have hzg : (sd ++ (⟨#[103]⟩ : ByteArray)).size ≤ 1000000 := by rw [ByteArray.size_append]; show sd.size + 1 ≤ _; omega
  have HZC := Lib.hid hzc
  have HZG := Lib.hid hzg
  have HNC := fun W => Lib.hid (mnew_any (sd ++ (⟨#[99]⟩ : ByteArray)) 0 W (by decide) hzc)
  have HNG := fun W => Lib.hid (mnew_any (sd ++ (⟨#[103]⟩ : ByteArray)) 0 W (by decide) hzg)
  clear hzc hzg
  rw [← hW0]
  clear hW0
  go_wp2_with fail
  refine (HNC _).out.mono ?_
  rintro e W1 ⟨kb, cb, rfl, hkb, hcb, hk, hb1⟩
  have HK := Lib.hid hk
  replace HX2 := Lib.hid (HX2.out.bel hb1)
  replace HX3 := Lib.hid (HX3.out.bel hb1)
  have HQ1 := Lib.hid (show w0.heap.size ≤ cb from Nat.le_trans HB.out.size hcb)
  replace HB := Lib.hid (HB.out.trans (hb1.mono HB.out.size))
  clear hk hb1 hkb hcb HNC
  go_wp2_with fail
  generalize sd ++ (⟨#[99]⟩ : ByteArray) = sc at HK HZC ⊢
  refine (HNG _).out.mono ?_
  rintro e W2 ⟨kg, cg, rfl, hkg, hcg, hk, hb1⟩
  generalize sd ++ (⟨#[103]⟩ : ByteArray) = sg at hk HZG ⊢
  have HT : Hid (TwoK W2 kb cb sc 0 0 kg cg sg 0 0) := Lib.hid ⟨HK.out.bel hb1, hk, by have := HK.out.cnt.lt; omega⟩
  replace HX2 := Lib.hid (HX2.out.bel hb1)
  replace HX3 := Lib.hid (HX3.out.bel hb1)
  have HQ2 := Lib.hid (show w0.heap.size ≤ cg from Nat.le_trans HB.out.size hcg)
  replace HB := Lib.hid (HB.out.trans (hb1.mono HB.out.size))
  clear hk hb1 hkg hcg HNG HK
  go_upto_region 6 with fail
  try go_frame
  have q0 := cell_rg (show W2.cell? ⟨w0.heap.size, 0, none⟩ = some (.int .u32 (a : Int)) from HX2.out.cell 0)
  have q1 := cell_rg (show W2.cell? ⟨w0.heap.size, 1, none⟩ = some (.int .u32 (b : Int)) from HX2.out.cell 1)
  have q3 := cell_rg (show W2.cell? ⟨w0.heap.size + 1, 0, none⟩ = some (.int .u16 (x0 : Int)) from HX3.out.cell 0)
  refine wp_region_quiet_below (by kernel_rfl) (by kernel_rfl) ?_
  repeat (first | go_big_quiet_skip | (go_big_quiet_want; first | (fail; go_big_quiet_on) | (go_big_quiet_op; first | go_big_quiet_on | go_big_quiet_call (fail))))
  refine wpQuiet_nil ?_
  intro W3 hp
  have hb := bel_regrown hp
  clear hp
  clear q0 q1 q3
  replace HT := Lib.hid (HT.out.bel hb)
  replace HX2 := Lib.hid (HX2.out.bel hb)
  replace HX3 := Lib.hid (HX3.out.bel hb)
  replace HB := Lib.hid (HB.out.trans (hb.mono HB.out.size))
  clear hb
  go_wp2_with fail
  refine (kroot_any kb cb sc 0 0 _ HT.out.kc).mono ?_
  rintro e V ⟨rfl, rfl⟩
  go_wp2_with fail
  refine (kroot_any kg cg sg 0 0 _ HT.out.kg).mono ?_
  rintro e V ⟨rfl, rfl⟩
  have hcl := rootB_size sc 0
  have hgt := rootB_size sg 0
  generalize hcd : rootB sc 0 = cl at hcl ⊢
  generalize rootB sg 0 = gt at hgt ⊢
  have HCD := Lib.hid hcd
  clear hcd
  have HLK : Hid (LkOk1 cl gt (11 + a) b (1 + x0)) := Lib.hid ⟨hcl, hgt, by omega, by omega, by omega, by omega, by omega⟩
  have K1 := fun W => Lib.hid (locked1_any cl gt (11 + a) b (1 + x0) W HLK.out)
  rw [show ((11 + a : Nat) : Int) = 11 + (a : Int) from by omega, show ((1 + x0 : Nat) : Int) = 1 + (x0 : Int) from by omega] at K1
  go_wp2_with fail
  refine (K1 _).out.mono ?_
  rintro e W4 ⟨sb, b4, A, c4, rfl, hsb, hbb, hset, hsl, hb⟩
  have HS := Lib.hid hset
  have HL := Lib.hid hsl
  replace HT := Lib.hid (HT.out.bel hb)
  replace HX3 := Lib.hid (HX3.out.bel hb)
  have HSB := Lib.hid (show w0.heap.size ≤ sb from Nat.le_trans HB.out.size hsb)
  have HBB := Lib.hid (show w0.heap.size ≤ b4 from Nat.le_trans HB.out.size hbb)
  replace HB := Lib.hid (HB.out.trans (hb.mono HB.out.size))
  clear hset hsl hb hsb hbb K1 HX2
  have hTl := lk1_len cl gt (11 + a) b (1 + x0)
  obtain ⟨T, hTT⟩ : ∃ T, T = lkT1 cl gt (11 + a) b (1 + x0) := ⟨_, rfl⟩
  rw [← hTT] at HS HL hTl ⊢
  have hT0 : 0 < T.length := hTl.1
  have hT2 := hTl.2
  have HTT := Lib.hid hTT
  clear hTT hTl
  go_wp2_with fail
  refine (kroot_any kb cb sc 0 0 _ HT.out.kc).mono ?_
  rintro e V ⟨rfl, rfl⟩
  rw [HCD.out]
  go_wp2_with fail
  have hcells : (payO (11 + a + b - 10) cl).cs = #[.int .i64 1, .int .u64 (11 + (a : Int) + (b : Int) - 10), .string cl, .string ⟨#[]⟩, .int .i64 0, .string ⟨#[]⟩, .int .u64 0, .int .i64 0, .string ⟨#[]⟩] := by
    show (#[.int .i64 1, .int .u64 ((11 + a + b - 10 : Nat) : Int), .string cl, .string ByteArray.empty, .int .i64 0, .string ByteArray.empty, .int .u64 0, .int .i64 0, .string ByteArray.empty] : Array Value) = _
    rw [show ((11 + a + b - 10 : Nat) : Int) = 11 + (a : Int) + (b : Int) - 10 from by omega]
    rfl
  have hb8 : Below W4.heap.size W4 (W4.alloc (.cells (payO (11 + a + b - 10) cl).cs 41)) := (Below.refl _ _).alloc (Nat.le_refl _) _
  have hpz : ∀ o ∈ [payO (11 + a + b - 10) cl], o.am < 18446744073709551616 ∧ o.unit < 18446744073709551616 := by
    intro o ho
    rw [List.mem_singleton.1 ho]; exact ⟨by show 11 + a + b - 10 < _; omega, by show (0 : Nat) < _; decide⟩
  have hsp := spend_any A T c4 3 (some ⟨W4.heap.size, 0, none⟩) [payO (11 + a + b - 10) cl] 1 noPf kb cb sc 0 0 _ (sl_bel HL.out hb8) (sl_out1 (Blk.new W4 41 (payO (11 + a + b - 10) cl).cs)) (sl_wn0 _ _) (by omega) (by show (1 : Nat) ≤ 1000; decide) (by decide) hpz (HT.out.kc.bel hb8) (by decide) (by decide) HZC.out
  have hco : coreX (spendT none 0 T 3 (some ⟨W4.heap.size, 0, none⟩) [payO (11 + a + b - 10) cl] 1 noPf ByteArray.empty) = coreOn T 3 [payO (11 + a + b - 10) cl] := by
    have hi := insOn_spend none 0 T 3 (some ⟨W4.heap.size, 0, none⟩) [payO (11 + a + b - 10) cl] 1 noPf ByteArray.empty (by decide)
    refine hi.core ?_
    have h1 := HTT.out
    have h3 := HS.out.ut.srt
    have h4 := HS.out.ut.ok
    rw [h1] at hi h3 h4 ⊢
    exact back_right HLK.out h3 h4 hi rfl rfl (by omega)
  rw [hco] at hsp
  have hs2 : (signB sc 0 0 (coreOn T 3 [payO (11 + a + b - 10) cl])).size ≤ 400 := by rw [signB_size sc (by decide)]; decide
  have hv2 : verB cl (coreOn T 3 [payO (11 + a + b - 10) cl]) (signB sc 0 0 (coreOn T 3 [payO (11 + a + b - 10) cl])) = true := by
    have := ver_sign sc (h := 0) (i := 0) (by decide) (by decide) (coreOn T 3 [payO (11 + a + b - 10) cl])
    rwa [HCD.out] at this
  generalize signB sc 0 0 (coreOn T 3 [payO (11 + a + b - 10) cl]) = sg2 at hsp hs2 hv2
  obtain ⟨W5, hW5⟩ : ∃ W, W = W4.alloc (.cells (payO (11 + a + b - 10) cl).cs 41) := ⟨_, rfl⟩
  rw [← hW5] at hsp hb8
  rw [hcells] at hW5
  replace HS := Lib.hid (HS.out.bel hb8)
  replace HL := Lib.hid (sl_bel HL.out hb8)
  replace HT := Lib.hid (HT.out.bel hb8)
  replace HX3 := Lib.hid (HX3.out.bel hb8)
  replace HB := Lib.hid (HB.out.trans (hb8.mono HB.out.size))
  clear hb8 hcells
  rw [← hW5]
  clear hW5
  generalize W4.heap.size = g4 at hsp hco ⊢
  refine hsp.mono ?_
  rintro e V8 ⟨A2, c2, rfl, hm2, hk, hc⟩
  obtain ⟨t2, ht2⟩ : ∃ t2, t2 = spendT A2 c2 T 3 (some ⟨g4, 0, none⟩) [payO (11 + a + b - 10) cl] 1 noPf sg2 := ⟨_, rfl⟩
  have hin := insOn_spend A2 c2 T 3 (some ⟨g4, 0, none⟩) [payO (11 + a + b - 10) cl] 1 noPf sg2 hs2
  rw [← ht2] at hin hm2 ⊢
  have h5 : t2.outs = [payO (11 + a + b - 10) cl] := by rw [ht2]; rfl
  have h6 : t2.p = noPf := by rw [ht2]; rfl
  have h7 : ∀ i ∈ t2.ins, verB cl (coreOn T 3 t2.outs) i.sig = true := by
    intro i hi
    rw [h5]
    rw [ht2] at hi
    obtain ⟨e, _, rfl⟩ := List.mem_map.1 hi
    exact hv2
  have h1 := HTT.out
  have h3 := HS.out.ut.srt
  have h4 := HS.out.ut.ok
  have HE5 : ∀ z : Int, z < 1 + (x0 : Int) → Hid (checkE T t2 z = 12) := fun z hz => Lib.hid (by
    clear ht2 h7
    rw [h1] at hin h3 h4 ⊢
    exact back_late HLK.out h3 h4 hin h6 h5 (by omega) (by omega))
  have HE6 : ∀ z : Int, 1 + (x0 : Int) ≤ z → Hid (checkE T t2 z = 0) := fun z hz => Lib.hid (by
    clear ht2
    rw [h1] at hin h3 h4 h7 ⊢
    exact back_ok HLK.out h3 h4 hin h6 h5 (by omega) (by omega) (by omega) h7)
  have HE2 : Hid (applyT T t2 = utN (idT t2) [payO (11 + a + b - 10) cl]) := Lib.hid (by rw [hin.apply, h5])
  have HX1 : Hid (TxOk t2) := Lib.hid (by rw [ht2]; exact txok_spend (by omega) (by show (1 : Nat) ≤ 1000; decide) pfok_no hpz)
  have HTK : Hid (TOk T) := Lib.hid (by rw [h1] at h4 ⊢; exact lk1_tok HLK.out h4)
  have HM2 := Lib.hid hm2
  have HIN := Lib.hid hin
  have H5 := Lib.hid h5
  have H6 := Lib.hid h6
  have HIL : Hid (t2.ins.length = T.length) := Lib.hid (by rw [ht2]; exact insOf_len _ _ _)
  have hne : w0.heap.size + 1 ≠ cb := HX3.out.ne_ HT.out.kc.cnt (by decide)
  replace HX3 := Lib.hid (HX3.out.ch hc (by simpa using hne))
  replace HS := Lib.hid (HS.out.key HT.out.kc hc)
  replace HB := Lib.hid (HB.out.trans (hc.below HB.out.size (by have := HQ1.out; simp; omega)))
  clear hk hc hsp hco hs2 hv2 hm2 ht2 hin h5 h6 h7 h1 h3 h4 hpz hne HL HT
  go_upto_region 12 with (first
    | (refine wpList_store_part rfl 53 (.tmp 16) (.tmp 85) rfl V8.heap.size 0 (cs := zTx0) (Blk.new _ _ _) t2.cs t2.cs (by rfl) (by rfl) (Nat.le_refl 6) infoTx (txncs_one t2) (txn_over t2 rfl) ?_; intro V9 hb1 hc1; have hb := bel_st' hc1; have H16 := Lib.hid hb1; replace HM2 := Lib.hid (HM2.out.bel hb); replace HS := Lib.hid (HS.out.bel hb); replace HX3 := Lib.hid (HX3.out.bel hb); replace HB := Lib.hid (HB.out.trans (hb.mono HB.out.size)); have q := HX3.out.cell 1; clear hb1 hc1 hb))
  clear HX3 q
  generalize V8.heap.size = g16 at H16 ⊢
  go_cut [112] from 89 to 112 (fun v wx => v = .bool false ∧ Hid (Blk wx g16 53 t2.cs) ∧ Hid (t2.mem wx) ∧ Hid (SetAt wx sb b4 T) ∧ Hid (Below w0.heap.size w0 wx))
  case first =>
    go_wp2_with (refine (wpList_load_blk rfl) 53 (.tmp 16) rfl g16 0 6 H16.out t2.cs (by rfl) (txn_ext t2) Tryz.underlying53 infoTx (Nat.le_refl 6) ?_)
    have KC := check_any sb b4 T t2 (1 + (x0 : Int) - 1) V9 HS.out HM2.out HTK.out HX1.out
    rw [(HE5 (1 + (x0 : Int) - 1) (by omega)).out] at KC
    refine KC.mono ?_
    rintro e V10 ⟨rfl, hb⟩
    replace H16 := Lib.hid (H16.out.bel hb)
    replace HM2 := Lib.hid (HM2.out.bel hb)
    replace HS := Lib.hid (HS.out.bel hb)
    replace HB := Lib.hid (HB.out.trans (Below.mono hb HB.out.size))
    clear hb KC
    go_wp2_with (refine (wpList_load_blkG (by kernel_rfl)) 53 (.tmp 16) rfl g16 0 6 H16.out t2.cs (by rfl) (txn_ext t2) Tryz.underlying53 infoTx (Nat.le_refl 6) ?_)
    have KC := check_any sb b4 T t2 (1 + (x0 : Int)) V10 HS.out HM2.out HTK.out HX1.out
    rw [(HE6 (1 + (x0 : Int)) (by omega)).out] at KC
    refine KC.mono ?_
    rintro e V11 ⟨rfl, hb⟩
    replace H16 := Lib.hid (H16.out.bel hb)
    replace HM2 := Lib.hid (HM2.out.bel hb)
    replace HS := Lib.hid (HS.out.bel hb)
    replace HB := Lib.hid (HB.out.trans (Below.mono hb HB.out.size))
    clear hb KC
    have dy : ((y0 : Int) < 1 + (x0 : Int)) ∨ (1 + (x0 : Int) ≤ (y0 : Int)) := by omega
    rcases dy with dy | dy
    · have d1 : decide (1 + (x0 : Int) ≤ (y0 : Int)) = false := decide_eq_false (by omega)
      go_wp2_with (refine (wpList_load_blkG (by kernel_rfl)) 53 (.tmp 16) rfl g16 0 6 H16.out t2.cs (by rfl) (txn_ext t2) Tryz.underlying53 infoTx (Nat.le_refl 6) ?_)
      have KC := check_any sb b4 T t2 (y0 : Int) V11 HS.out HM2.out HTK.out HX1.out
      rw [(HE5 (y0 : Int) (by omega)).out] at KC
      refine KC.mono ?_
      rintro e V12 ⟨rfl, hb⟩
      replace H16 := Lib.hid (H16.out.bel hb)
      replace HM2 := Lib.hid (HM2.out.bel hb)
      replace HS := Lib.hid (HS.out.bel hb)
      replace HB := Lib.hid (HB.out.trans (Below.mono hb HB.out.size))
      clear hb KC
      go_wp2_with fail
      go_meet
      exact ⟨rfl, H16, HM2, HS, HB⟩
    · have d1 : decide (1 + (x0 : Int) ≤ (y0 : Int)) = true := decide_eq_true dy
      go_wp2_with (refine (wpList_load_blkG (by kernel_rfl)) 53 (.tmp 16) rfl g16 0 6 H16.out t2.cs (by rfl) (txn_ext t2) Tryz.underlying53 infoTx (Nat.le_refl 6) ?_)
      have KC := check_any sb b4 T t2 (y0 : Int) V11 HS.out HM2.out HTK.out HX1.out
      rw [(HE6 (y0 : Int) (by omega)).out] at KC
      refine KC.mono ?_
      rintro e V12 ⟨rfl, hb⟩
      replace H16 := Lib.hid (H16.out.bel hb)
      replace HM2 := Lib.hid (HM2.out.bel hb)
      replace HS := Lib.hid (HS.out.bel hb)
      replace HB := Lib.hid (HB.out.trans (Below.mono hb HB.out.size))
      clear hb KC
      go_wp2_with fail
      go_meet
      exact ⟨rfl, H16, HM2, HS, HB⟩
  case rest =>
    clear H16 HM2 HS HB
    obtain ⟨rfl, H16, HM2, HS, HB⟩ := hcut
    go_upto_region 14 with fail
    refine wp_gen fun X0 hX => ?_
    rw [← hX] at H16 HM2 HS HB
    clear hX
    obtain ⟨n0, hni, hn0, hn1, hn2⟩ := info_parts Tryz.infoInM
    have HNZ := Lib.hid hn0
    have hil : t2.ins.length ≤ 1000 := HX1.out.ins
    clear hn0
    go_cut [18] from 113 to 119 (fun v wx => ∃ (g18 : Nat) (A' : Option Addr) (c' : Nat), v = .pointer (some ⟨g18, 0, none⟩) ∧ Hid (Blk wx g18 53 (bareT t2 A' c' t2.ins).cs) ∧ Hid (wx.ownsRow X0.heap.size 64 4 (.slice A' t2.ins.length c') t2.ins.length (t2.ins.flatMap Inp.cl)) ∧ Hid (Below X0.heap.size X0 wx))
    case first =>
      refine wp_region_held_drew (S := fun W => Hid (Blk W g16 53 t2.cs)) (by kernel_rfl) (Lib.hid (H16.out.drewN 1)) (fun hS => ?_)
      have HBX : Hid (Below X0.heap.size X0 X0.drew) := Lib.hid (Below.refl _ _).drew
      refine wpAnyH_genT fun X hX2 => ?_
      rw [← hX2] at HBX hS
      clear hX2
      refine wpAnyH_take (i := 1) (v := ?_) rfl (by kernel_rfl) (by kernel_rfl) (by kernel_rfl) (fun _ _ _ h => h) (Or.inl ⟨by rfl, ?_⟩) hS ?_
      rotate_left
      · (intro w _; go_simp; try with_reducible rfl)
      refine wpAnyH_take (i := 2) (v := ?_) rfl (by kernel_rfl) (by kernel_rfl) (by kernel_rfl) (fun _ _ _ h => h) (Or.inl ⟨by rfl, ?_⟩) hS ?_
      rotate_left
      · (intro w hS'; have hcell := (show World.cell? _ ⟨g16, 0, none⟩ = some (.slice t2.A t2.ins.length t2.c) from Blk.cell hS'.out 0); go_simp; try with_reducible rfl)
      refine wpAnyH_take (i := 4) (v := ?_) rfl (by kernel_rfl) (by kernel_rfl) (by kernel_rfl) (fun _ _ _ h => h) (Or.inl ⟨by rfl, ?_⟩) hS ?_
      rotate_left
      · (intro w _; go_simp; try with_reducible rfl)
      refine wpAnyH_take (i := 5) (v := ?_) rfl (by kernel_rfl) (by kernel_rfl) (by kernel_rfl) (fun _ _ _ h => h) (Or.inl ⟨by rfl, ?_⟩) hS ?_
      rotate_left
      · (intro w hS'; have hcell := (show World.cell? _ ⟨g16, 1, none⟩ = some (.slice t2.B t2.outs.length t2.d) from Blk.cell hS'.out 1); go_simp; try with_reducible rfl)
      refine wpAnyH_ready (rs := [0, 7]) (by kernel_rfl) (by simp) (AllReadyH.cons rfl (fun K hK => ?_) (AllReadyH.cons rfl (fun K hK => ?_) AllReadyH.nil))
      · go_simp
        have HNEW : Hid (Blk (X.alloc (.cells #[] 64)) X.heap.size 64 #[]) := Lib.hid (Blk.new _ _ _)
        have HAL : Hid (Below X.heap.size X (X.alloc ((.cells #[] 64)))) := Lib.hid ((Below.refl _ _).alloc (Nat.le_refl _) _)
        have HBY : Hid (Below X0.heap.size X0 (X.alloc ((.cells #[] 64)))) := Lib.hid (HBX.out.alloc HBX.out.size _)
        have hS1 : Hid (Blk (X.alloc ((.cells #[] 64))) g16 53 t2.cs) := Lib.hid (hS.out.alloc _)
        refine hK.out _ _ hS1 (fun _ => ?_)
        clear hK K
        refine wpAnyH_genT fun Y hY => ?_
        replace hY : Y = X.alloc ((.cells #[] 64)) := hY
        rw [← hY] at HNEW HBY hS1 HAL
        have hgE0 : X0.heap.size ≤ X.heap.size := HBX.out.size
        clear hY HBX hS
        obtain ⟨HBX, hS⟩ := And.intro HBY hS1
        clear HBY hS1
        try replace N18 := Lib.hid (N18.out.bel HAL.out)
        clear HAL
        obtain ⟨E0, hgE⟩ := And.intro HNEW hgE0
        clear HNEW hgE0
        generalize X.heap.size = ge at E0 hgE ⊢
        refine wpAnyH_ready (rs := [3, 7]) (by kernel_rfl) (by simp) (AllReadyH.cons rfl (fun K hK => ?_) (AllReadyH.cons rfl (fun K hK => ?_) AllReadyH.nil))
        · refine step_append_any _ (by rfl) (.tmp 113) (.tmp 115) 48 (by rfl) X0.heap.size 64 n0 _ 4 48 Tryz.underlying48 hni HNZ.out hn1 hn2 rfl (by omega) (.slice (some ⟨ge, 0, none⟩) 0 0) 0 [] (by rfl) (own_empty E0.out hgE) Y.heap.size t2.A t2.ins.length t2.c (t2.ins.flatMap Inp.cl) (by rfl) (Reads.of_sl incl_len (HM2.out.bel HBX.out).ins) (flat_in1 _) (by simp only [maxLen]; omega) (by omega) HBX.out.size ?_
          intro v' Z hown hgrow hat
          rw [Nat.zero_add, List.nil_append] at hown
          obtain ⟨A', c', rfl⟩ := own_form hown
          have HR := Lib.hid hown
          have HBY : Hid (Below X0.heap.size X0 Z) := Lib.hid (HBX.out.grown hgrow HBX.out.size (fun j hj => by have hj' : some ge = some j := hj; injection hj' with hj'; omega))
          have hS1 : Hid (Blk Z g16 53 t2.cs) := Lib.hid (hS.out.grown hgrow (blk_farM hS.out (own_empty (k := 4) E0.out hgE) (by decide)))
          try replace N18 := Lib.hid (N18.out.grown hgrow (blk_farM N18.out (own_empty (k := 4) E0.out hgE) (by decide)))
          clear hown hgrow hat E0
          refine hK.out _ _ hS1 (fun _ => ?_)
          clear hK K hS HBX
          obtain ⟨HBX, hS⟩ := And.intro HBY hS1
          clear HBY hS1
          refine wpAnyH_take (i := 6) (v := ?_) rfl (by kernel_rfl) (by kernel_rfl) (by kernel_rfl) (fun _ _ _ h => h) (Or.inl ⟨by rfl, ?_⟩) hS ?_
          rotate_left
          · (intro w _; go_simp; try with_reducible rfl)
          refine wpAnyH_ready (rs := [7]) (by kernel_rfl) (by simp) (AllReadyH.cons rfl (fun K hK => ?_) AllReadyH.nil)
          go_simp
          have HNEW : Hid (Blk (Z.alloc (.cells zTx0 53)) Z.heap.size 53 zTx0) := Lib.hid (Blk.new _ _ _)
          have HAL : Hid (Below Z.heap.size Z (Z.alloc ((.cells zTx0 53)))) := Lib.hid ((Below.refl _ _).alloc (Nat.le_refl _) _)
          have HBY : Hid (Below X0.heap.size X0 (Z.alloc ((.cells zTx0 53)))) := Lib.hid (HBX.out.alloc HBX.out.size _)
          have hS1 : Hid (Blk (Z.alloc ((.cells zTx0 53))) g16 53 t2.cs) := Lib.hid (hS.out.alloc _)
          refine hK.out _ _ hS1 (fun _ => ?_)
          clear hK K
          refine wpAnyH_genT fun U hY => ?_
          replace hY : U = Z.alloc ((.cells zTx0 53)) := hY
          rw [← hY] at HNEW HBY hS1 HAL
          have hgE0 : X0.heap.size ≤ Z.heap.size := HBX.out.size
          clear hY HBX hS
          obtain ⟨HBX, hS⟩ := And.intro HBY hS1
          clear HBY hS1
          try replace E0 := Lib.hid (E0.out.bel HAL.out)
          try replace HR := Lib.hid (own_belT HR.out HAL.out)
          clear HAL
          obtain ⟨N18, hgN⟩ := And.intro HNEW hgE0
          clear HNEW hgE0
          generalize Z.heap.size = g18 at N18 hgN ⊢
          refine wpAnyH_ready (rs := [8]) (by kernel_rfl) (by simp) (AllReadyH.cons rfl (fun K hK => ?_) AllReadyH.nil)
          refine step_store_part (by rfl) 53 (.tmp 18) (.tmp 119) (by rfl) g18 0 N18.out (bareT t2 A' c' t2.ins).cs (bareT t2 A' c' t2.ins).cs (by rfl) (by rfl) (Nat.le_refl 6) infoTx (txncs_one _) (txn_over _ rfl) ?_
          intro V1 hb1 hc1
          have H1 := Lib.hid hb1
          have HR1 := Lib.hid (own_chT HR.out hc1 N18.out.kdT (by decide))
          have HB1 : Hid (Below X0.heap.size X0 V1) := Lib.hid (HBX.out.trans (hc1.below HBX.out.size (by simpa using hgN)))
          have hne : g16 ≠ g18 := fun e => by have := H16.out.lt; omega
          have hS1 := Lib.hid (hS.out.ch hc1 (by simpa using hne))
          clear hb1 hc1 hne
          refine hK.out _ _ hS1 (fun _ => ?_)
          clear hK K
          refine wpAnyH_done (by kernel_rfl) ?_ _
          go_simp
          go_wp2_with fail
          go_meet
          exact ⟨g18, A', c', rfl, H1, HR1, HB1⟩
        · go_simp
          have HNEW : Hid (Blk (Y.alloc (.cells zTx0 53)) Y.heap.size 53 zTx0) := Lib.hid (Blk.new _ _ _)
          have HAL : Hid (Below Y.heap.size Y (Y.alloc ((.cells zTx0 53)))) := Lib.hid ((Below.refl _ _).alloc (Nat.le_refl _) _)
          have HBY : Hid (Below X0.heap.size X0 (Y.alloc ((.cells zTx0 53)))) := Lib.hid (HBX.out.alloc HBX.out.size _)
          have hS1 : Hid (Blk (Y.alloc ((.cells zTx0 53))) g16 53 t2.cs) := Lib.hid (hS.out.alloc _)
          refine hK.out _ _ hS1 (fun _ => ?_)
          clear hK K
          refine wpAnyH_genT fun Z hY => ?_
          replace hY : Z = Y.alloc ((.cells zTx0 53)) := hY
          rw [← hY] at HNEW HBY hS1 HAL
          have hgE0 : X0.heap.size ≤ Y.heap.size := HBX.out.size
          clear hY HBX hS
          obtain ⟨HBX, hS⟩ := And.intro HBY hS1
          clear HBY hS1
          try replace E0 := Lib.hid (E0.out.bel HAL.out)
          try replace HR := Lib.hid (own_belT HR.out HAL.out)
          clear HAL
          obtain ⟨N18, hgN⟩ := And.intro HNEW hgE0
          clear HNEW hgE0
          generalize Y.heap.size = g18 at N18 hgN ⊢
          refine wpAnyH_ready (rs := [3]) (by kernel_rfl) (by simp) (AllReadyH.cons rfl (fun K hK => ?_) AllReadyH.nil)
          refine step_append_any _ (by rfl) (.tmp 113) (.tmp 115) 48 (by rfl) X0.heap.size 64 n0 _ 4 48 Tryz.underlying48 hni HNZ.out hn1 hn2 rfl (by omega) (.slice (some ⟨ge, 0, none⟩) 0 0) 0 [] (by rfl) (own_empty E0.out hgE) Z.heap.size t2.A t2.ins.length t2.c (t2.ins.flatMap Inp.cl) (by rfl) (Reads.of_sl incl_len (HM2.out.bel HBX.out).ins) (flat_in1 _) (by simp only [maxLen]; omega) (by omega) HBX.out.size ?_
          intro v' U hown hgrow hat
          rw [Nat.zero_add, List.nil_append] at hown
          obtain ⟨A', c', rfl⟩ := own_form hown
          have HR := Lib.hid hown
          have HBY : Hid (Below X0.heap.size X0 U) := Lib.hid (HBX.out.grown hgrow HBX.out.size (fun j hj => by have hj' : some ge = some j := hj; injection hj' with hj'; omega))
          have hS1 : Hid (Blk U g16 53 t2.cs) := Lib.hid (hS.out.grown hgrow (blk_farM hS.out (own_empty (k := 4) E0.out hgE) (by decide)))
          try replace N18 := Lib.hid (N18.out.grown hgrow (blk_farM N18.out (own_empty (k := 4) E0.out hgE) (by decide)))
          clear hown hgrow hat E0
          refine hK.out _ _ hS1 (fun _ => ?_)
          clear hK K hS HBX
          obtain ⟨HBX, hS⟩ := And.intro HBY hS1
          clear HBY hS1
          refine wpAnyH_take (i := 6) (v := ?_) rfl (by kernel_rfl) (by kernel_rfl) (by kernel_rfl) (fun _ _ _ h => h) (Or.inl ⟨by rfl, ?_⟩) hS ?_
          rotate_left
          · (intro w _; go_simp; try with_reducible rfl)
          refine wpAnyH_ready (rs := [8]) (by kernel_rfl) (by simp) (AllReadyH.cons rfl (fun K hK => ?_) AllReadyH.nil)
          refine step_store_part (by rfl) 53 (.tmp 18) (.tmp 119) (by rfl) g18 0 N18.out (bareT t2 A' c' t2.ins).cs (bareT t2 A' c' t2.ins).cs (by rfl) (by rfl) (Nat.le_refl 6) infoTx (txncs_one _) (txn_over _ rfl) ?_
          intro V1 hb1 hc1
          have H1 := Lib.hid hb1
          have HR1 := Lib.hid (own_chT HR.out hc1 N18.out.kdT (by decide))
          have HB1 : Hid (Below X0.heap.size X0 V1) := Lib.hid (HBX.out.trans (hc1.below HBX.out.size (by simpa using hgN)))
          have hne : g16 ≠ g18 := fun e => by have := H16.out.lt; omega
          have hS1 := Lib.hid (hS.out.ch hc1 (by simpa using hne))
          clear hb1 hc1 hne
          refine hK.out _ _ hS1 (fun _ => ?_)
          clear hK K
          refine wpAnyH_done (by kernel_rfl) ?_ _
          go_simp
          go_wp2_with fail
          go_meet
          exact ⟨g18, A', c', rfl, H1, HR1, HB1⟩
      · go_simp
        have HNEW : Hid (Blk (X.alloc (.cells zTx0 53)) X.heap.size 53 zTx0) := Lib.hid (Blk.new _ _ _)
        have HAL : Hid (Below X.heap.size X (X.alloc ((.cells zTx0 53)))) := Lib.hid ((Below.refl _ _).alloc (Nat.le_refl _) _)
        have HBY : Hid (Below X0.heap.size X0 (X.alloc ((.cells zTx0 53)))) := Lib.hid (HBX.out.alloc HBX.out.size _)
        have hS1 : Hid (Blk (X.alloc ((.cells zTx0 53))) g16 53 t2.cs) := Lib.hid (hS.out.alloc _)
        refine hK.out _ _ hS1 (fun _ => ?_)
        clear hK K
        refine wpAnyH_genT fun Y hY => ?_
        replace hY : Y = X.alloc ((.cells zTx0 53)) := hY
        rw [← hY] at HNEW HBY hS1 HAL
        have hgE0 : X0.heap.size ≤ X.heap.size := HBX.out.size
        clear hY HBX hS
        obtain ⟨HBX, hS⟩ := And.intro HBY hS1
        clear HBY hS1
        try replace E0 := Lib.hid (E0.out.bel HAL.out)
        try replace HR := Lib.hid (own_belT HR.out HAL.out)
        clear HAL
        obtain ⟨N18, hgN⟩ := And.intro HNEW hgE0
        clear HNEW hgE0
        generalize X.heap.size = g18 at N18 hgN ⊢
        refine wpAnyH_ready (rs := [0]) (by kernel_rfl) (by simp) (AllReadyH.cons rfl (fun K hK => ?_) AllReadyH.nil)
        go_simp
        have HNEW : Hid (Blk (Y.alloc (.cells #[] 64)) Y.heap.size 64 #[]) := Lib.hid (Blk.new _ _ _)
        have HAL : Hid (Below Y.heap.size Y (Y.alloc ((.cells #[] 64)))) := Lib.hid ((Below.refl _ _).alloc (Nat.le_refl _) _)
        have HBY : Hid (Below X0.heap.size X0 (Y.alloc ((.cells #[] 64)))) := Lib.hid (HBX.out.alloc HBX.out.size _)
        have hS1 : Hid (Blk (Y.alloc ((.cells #[] 64))) g16 53 t2.cs) := Lib.hid (hS.out.alloc _)
        refine hK.out _ _ hS1 (fun _ => ?_)
        clear hK K
        refine wpAnyH_genT fun Z hY => ?_
        replace hY : Z = Y.alloc ((.cells #[] 64)) := hY
        rw [← hY] at HNEW HBY hS1 HAL
        have hgE0 : X0.heap.size ≤ Y.heap.size := HBX.out.size
        clear hY HBX hS
        obtain ⟨HBX, hS⟩ := And.intro HBY hS1
        clear HBY hS1
        try replace N18 := Lib.hid (N18.out.bel HAL.out)
        clear HAL
        obtain ⟨E0, hgE⟩ := And.intro HNEW hgE0
        clear HNEW hgE0
        generalize Y.heap.size = ge at E0 hgE ⊢
        refine wpAnyH_ready (rs := [3]) (by kernel_rfl) (by simp) (AllReadyH.cons rfl (fun K hK => ?_) AllReadyH.nil)
        refine step_append_any _ (by rfl) (.tmp 113) (.tmp 115) 48 (by rfl) X0.heap.size 64 n0 _ 4 48 Tryz.underlying48 hni HNZ.out hn1 hn2 rfl (by omega) (.slice (some ⟨ge, 0, none⟩) 0 0) 0 [] (by rfl) (own_empty E0.out hgE) Z.heap.size t2.A t2.ins.length t2.c (t2.ins.flatMap Inp.cl) (by rfl) (Reads.of_sl incl_len (HM2.out.bel HBX.out).ins) (flat_in1 _) (by simp only [maxLen]; omega) (by omega) HBX.out.size ?_
        intro v' U hown hgrow hat
        rw [Nat.zero_add, List.nil_append] at hown
        obtain ⟨A', c', rfl⟩ := own_form hown
        have HR := Lib.hid hown
        have HBY : Hid (Below X0.heap.size X0 U) := Lib.hid (HBX.out.grown hgrow HBX.out.size (fun j hj => by have hj' : some ge = some j := hj; injection hj' with hj'; omega))
        have hS1 : Hid (Blk U g16 53 t2.cs) := Lib.hid (hS.out.grown hgrow (blk_farM hS.out (own_empty (k := 4) E0.out hgE) (by decide)))
        try replace N18 := Lib.hid (N18.out.grown hgrow (blk_farM N18.out (own_empty (k := 4) E0.out hgE) (by decide)))
        clear hown hgrow hat E0
        refine hK.out _ _ hS1 (fun _ => ?_)
        clear hK K hS HBX
        obtain ⟨HBX, hS⟩ := And.intro HBY hS1
        clear HBY hS1
        refine wpAnyH_take (i := 6) (v := ?_) rfl (by kernel_rfl) (by kernel_rfl) (by kernel_rfl) (fun _ _ _ h => h) (Or.inl ⟨by rfl, ?_⟩) hS ?_
        rotate_left
        · (intro w _; go_simp; try with_reducible rfl)
        refine wpAnyH_ready (rs := [8]) (by kernel_rfl) (by simp) (AllReadyH.cons rfl (fun K hK => ?_) AllReadyH.nil)
        refine step_store_part (by rfl) 53 (.tmp 18) (.tmp 119) (by rfl) g18 0 N18.out (bareT t2 A' c' t2.ins).cs (bareT t2 A' c' t2.ins).cs (by rfl) (by rfl) (Nat.le_refl 6) infoTx (txncs_one _) (txn_over _ rfl) ?_
        intro V1 hb1 hc1
        have H1 := Lib.hid hb1
        have HR1 := Lib.hid (own_chT HR.out hc1 N18.out.kdT (by decide))
        have HB1 : Hid (Below X0.heap.size X0 V1) := Lib.hid (HBX.out.trans (hc1.below HBX.out.size (by simpa using hgN)))
        have hne : g16 ≠ g18 := fun e => by have := H16.out.lt; omega
        have hS1 := Lib.hid (hS.out.ch hc1 (by simpa using hne))
        clear hb1 hc1 hne
        refine hK.out _ _ hS1 (fun _ => ?_)
        clear hK K
        refine wpAnyH_done (by kernel_rfl) ?_ _
        go_simp
        go_wp2_with fail
        go_meet
        exact ⟨g18, A', c', rfl, H1, HR1, HB1⟩
    case rest =>
      obtain ⟨g18, A', c', rfl, H18, HRW, HBX⟩ := hcut
      have hin0 : 0 < t2.ins.length := by rw [HIL.out]; exact hT0
      obtain ⟨gg, cur, rfl, hgg, hcur, _, hcz⟩ := own_atA incl_len HRW.out 0 hin0
      have HCU := Lib.hid hcur
      have hg18 : g18 ≠ gg := H18.out.ne_ hcur (by decide)
      obtain ⟨v3, hv3⟩ : ∃ v, wc.cell? ⟨gg, 3, none⟩ = some v := ⟨_, (hcur.cell 3).trans (Array.getElem?_eq_getElem (show 3 < cur.size by omega))⟩
      have z3 : wc.frozen? ⟨gg, 3, none⟩ = false := hcur.frozen 3
      have c0 : wc.cell? ⟨g18, 0, none⟩ = some (.slice (some ⟨gg, 0, none⟩) t2.ins.length c') := H18.out.cell 0
      have d0 : decide (0 < t2.ins.length) = true := decide_eq_true hin0
      have d1 : (0 : Int) < (t2.ins.length : Int) := by omega
      clear hcur hcz
      go_upto_region 16 with fail
      clear hv3 z3 c0 d0 d1
      have HY1 : Hid (Sl (wc.setCell ⟨gg, 3, none⟩ (.string ByteArray.empty)) (wc.setCell ⟨gg, 3, none⟩ (.string ByteArray.empty)).heap.size 4 Inp.cl (some ⟨gg, 0, none⟩) (unS t2.ins)) := Lib.hid (sl_unS HCU.out (Sl.of_own incl_len HRW.out) hin0)
      have HY2 : Hid (Blk (wc.setCell ⟨gg, 3, none⟩ (.string ByteArray.empty)) g18 53 (bareT t2 (some ⟨gg, 0, none⟩) c' (unS t2.ins)).cs) := Lib.hid (by
        have e : (bareT t2 (some ⟨gg, 0, none⟩) c' (unS t2.ins)).cs = (bareT t2 (some ⟨gg, 0, none⟩) c' t2.ins).cs := by
          show #[Value.slice _ (unS t2.ins).length _, _, _, _, _, _] = _
          rw [unS_len]; rfl
        rw [e]
        exact H18.out.far (p := ⟨gg, 3, none⟩) (by simpa using hg18) _)
      have HY3 : Hid (Below X0.heap.size X0 (wc.setCell ⟨gg, 3, none⟩ (.string ByteArray.empty))) := Lib.hid (HBX.out.setCell (by simpa using hgg) _)
      have EMP : (⟨#[]⟩ : ByteArray) = ByteArray.empty := rfl
      rw [EMP]
      generalize wc.setCell ⟨gg, 3, none⟩ (.string ByteArray.empty) = V3 at HY1 HY2 HY3 ⊢
      clear HRW HBX H18 HCU hgg EMP
      obtain ⟨t3, ht3⟩ : ∃ t3, t3 = bareT t2 (some ⟨gg, 0, none⟩) c' (unS t2.ins) := ⟨_, rfl⟩
      have HM3 : Hid (t3.mem V3) := Lib.hid (by rw [ht3]; exact ⟨HY1.out, (HM2.out.bel HY3.out).outs, Sl.nil _ _ _ _ _⟩)
      have HX3 : Hid (TxOk t3) := Lib.hid (by rw [ht3]; exact ⟨by show (unS t2.ins).length ≤ 1000; rw [unS_len]; exact HX1.out.ins, HX1.out.outs, pfok_no, HX1.out.out⟩)
      have HE3 : Hid (checkE T t3 (1 + (x0 : Int)) = 10) := Lib.hid (by
        have hi3 : InsOn t3 T 3 := by
          rw [ht3]
          exact ⟨by show (unS t2.ins).map noSig = _; rw [unS_no]; exact HIN.out.eq, unS_sz HIN.out.sig⟩
        have h5 : t3.outs = [payO (11 + a + b - 10) cl] := by rw [ht3]; exact H5.out
        have h6 : t3.p = noPf := by rw [ht3]; rfl
        have h8 : ∀ h0 : 0 < t3.ins.length, t3.ins[0].sig = ByteArray.empty := by
          rw [ht3]
          intro h0
          have h9 : ∀ (l : List Inp) (h : 0 < (unS l).length), ((unS l)[0]'h).sig = ByteArray.empty := fun l h => by
            cases l with
            | nil => cases h
            | cons x r => rfl
          exact h9 t2.ins h0
        have h1 := HTT.out
        have h3 := HS.out.ut.srt
        have h4 := HS.out.ut.ok
        clear ht3 HM3 HX3 HY2
        rw [h1] at hi3 h3 h4 ⊢
        exact back_bare HLK.out h3 h4 hi3 h6 h5 (by omega) (by omega) h8)
      rw [← ht3] at HY2
      clear HY1 ht3
      replace H16 := Lib.hid (H16.out.bel HY3.out)
      replace HM2 := Lib.hid (HM2.out.bel HY3.out)
      replace HS := Lib.hid (HS.out.bel HY3.out)
      replace HB := Lib.hid (HB.out.trans (HY3.out.mono HB.out.size))
      clear HY3
      go_wp2_with (refine wpList_load_blk rfl 53 (.tmp 18) rfl g18 0 6 HY2.out t3.cs (by rfl) (txn_ext t3) Tryz.underlying53 infoTx (Nat.le_refl 6) ?_)
      have KC := check_any sb b4 T t3 (1 + (x0 : Int)) V3 HS.out HM3.out HTK.out HX3.out
      rw [HE3.out] at KC
      refine KC.mono ?_
      rintro e V4 ⟨rfl, hb⟩
      replace H16 := Lib.hid (H16.out.bel hb)
      replace HM2 := Lib.hid (HM2.out.bel hb)
      replace HS := Lib.hid (HS.out.bel hb)
      replace HB := Lib.hid (HB.out.trans (Below.mono hb HB.out.size))
      clear hb KC HY2 HM3 HX3 HE3
      go_wp2_with (refine wpList_load_blkG (by kernel_rfl) 53 (.tmp 16) rfl g16 0 6 H16.out t2.cs (by rfl) (txn_ext t2) Tryz.underlying53 infoTx (Nat.le_refl 6) ?_)
      have K := apply_any sb b4 T t2 (1 + (x0 : Int)) V4 HS.out HM2.out HTK.out HX1.out
      rw [(HE6 (1 + (x0 : Int)) (by omega)).out, HE2.out] at K
      refine K.mono ?_
      rintro e V5 ⟨rfl, hc, hset⟩
      rw [if_pos rfl] at hset
      replace HB := Lib.hid (HB.out.trans (hc.below HB.out.size (by have := HBB.out; simp; omega)))
      have hln : (utN (idT t2) [payO (11 + a + b - 10) cl]).length = 1 := rfl
      have HA2 := all_n 1 sb b4 _ V5 hset hln (by omega) (by omega)
      clear hset hc K hln
      go_wp2_with fail
      refine HA2.mono ?_
      rintro e V6 ⟨AV, cV, rfl, _, hb⟩
      replace HB := Lib.hid (HB.out.trans (hb.mono HB.out.size))
      clear hb HA2
      go_wp2_with fail
      refine (fixed11_any _).mono ?_
      rintro e V7 ⟨rfl, hb⟩
      go_wp2_with fail
      go_ret
      exact ⟨rfl, HB.out.trans (hb.mono HB.out.size)⟩
end Go.Proofs.YtdoebmikjgmnaaaGreat
