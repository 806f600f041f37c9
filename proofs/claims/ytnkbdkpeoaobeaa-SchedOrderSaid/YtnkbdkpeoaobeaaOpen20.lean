/- An argument that is a slice of items, opened; what the law's cut makes of items. -/
import Derived.Test.YtnkbdkpeoaobeaaArr
import Derived.Test.YtnkbdkpeoaobeaaSchedI

namespace Go.Proofs.Ytnkbdkpeoaobeaa
open Go.ChangeShapes Go.WideShapes Go.ChangeAt Go.RowKit Go.Deep
theorem list_of {α : Type} {P : Nat → α → Prop} : ∀ (n : Nat), (∀ i, i < n → ∃ x, P i x) → ∃ l : List α, l.length = n ∧ ∀ i x, l[i]? = some x → P i x
  | 0, _ => ⟨[], rfl, fun i x h => by simp at h⟩
  | n + 1, h => by
    obtain ⟨l, hl, hp⟩ := list_of n (fun i hi => h i (by omega))
    obtain ⟨x, hx⟩ := h n (by omega)
    refine ⟨l ++ [x], by simp [hl], fun i y hy => ?_⟩
    by_cases hi : i < n
    · rw [List.getElem?_append_left (by omega)] at hy; exact hp i y hy
    · rw [List.getElem?_append_right (by omega)] at hy
      have e : i - l.length = 0 := by
        have := (List.getElem?_eq_some_iff.1 hy).1
        simp at this; omega
      rw [e] at hy
      simp at hy
      have : i = n := by omega
      subst this hy; exact hx
section
variable {H : Type} {enc : TypeId × Value → H} {P : Program} {w : World} {base : Nat} {spare : Nat → Bool} {held : Bool}
/-- howto/extra-structs, section 1 -/
theorem open_slice_fields {t e : TypeId} {fs : Array Field} {fuel : Nat} {cs : List Value} {x : DataW H × List MemPlace} (ht : P.underlying t = some (.slice e)) (he : P.underlying e = some (.struct fs))
    (hone : oneCellFields P fs = true) (hC : P.cellsOf e = fs.size) (h : DataW.trod enc P w base spare held fuel t cs = some x) :
    (cs = [.slice none 0 0] ∧ x = (.nil, [])) ∨
    ∃ (a : Addr) (len cap m : Nat) (D : Nat → DataW H) (Pl : Nat → List MemPlace), cs = [.slice (some a) len cap] ∧ base ≤ a.block ∧ len ≤ cap ∧ cap ≤ maxLen ∧ m = (if spare a.block then cap else len) ∧
      x = (.slice ((List.range len).map D) ((List.range (m - len)).map fun j => D (len + j)), MemPlace.row a (m * fs.size) ++ (List.range m).flatMap Pl) ∧
      ∀ i, i < m → ∃ (ys : List (DataW H × List MemPlace)) (n : Nat), D i = .agg (ys.map (·.1)) ∧ Pl i = ys.flatMap (·.2) ∧ ys.length = fs.size ∧
        ∀ (j : Nat) (f : Field), fs[j]? = some f → ∃ (v : Value) (y : DataW H × List MemPlace), w.cell? (a.add (i * fs.size + j)) = some v ∧ ys[j]? = some y ∧ DataW.trod enc P w base spare held n f.type [v] = some y := by
  rcases open_slice ht h with h0 | ⟨a, len, cap, m, n, D, Pl, hcs, hb, hl, hm, hmm, hx, hi⟩
  · exact .inl h0
  · refine .inr ⟨a, len, cap, m, D, Pl, hcs, hb, hl, hm, hmm, by rw [hC] at hx; exact hx, fun i him => ?_⟩
    obtain ⟨cs', hc, ht'⟩ := hi i him
    rw [hC] at hc
    obtain ⟨ys, n', hn', hy, hlen, hyl, hf⟩ := DataW.trod_struct he ht'
    obtain ⟨_, hcl, hat⟩ := World.cells?_some hc
    simp only [Prod.mk.injEq] at hy
    refine ⟨ys, n', hy.1, hy.2, hyl, fun j f hj => ?_⟩
    obtain ⟨ho, hk⟩ := hone_of hone j f hj
    have hjl : j < fs.size := (Array.getElem?_eq_some_iff.1 hj).1
    have hcell := hat j hjl
    have hv : cs'[j]? = some (cs'[j]'(by omega)) := List.getElem?_eq_getElem (by omega)
    have h1 := hf j f hj
    rw [ho, hk] at h1
    have hone' : (cs'.drop j).take 1 = [cs'[j]'(by omega)] := by
      rw [List.drop_eq_getElem_cons (by omega)]
      rfl
    rw [hone'] at h1
    have hys : ys[j]? = some (ys[j]'(by omega)) := List.getElem?_eq_getElem (by omega)
    refine ⟨_, _, ?_, hys, h1.trans hys⟩
    rw [← Go.Deep.add_add, hcell, hv]
end
theorem addr_at {w : World} {a : Addr} {v : Value} (h : w.cell? a = some v) : a = ⟨a.block, a.off, none⟩ ∧ a.block < w.heap.size := by
  obtain ⟨b, o, s⟩ := a
  unfold World.cell? at h
  cases hb : w.heap[b]? with
  | none => rw [hb] at h; cases h
  | some ob =>
    rw [hb] at h
    cases ob with
    | cells c t f =>
      cases s with
      | none => exact ⟨rfl, (Array.getElem?_eq_some_iff.1 hb).1⟩
      | some s => simp at h
    | map es n => cases h
    | _ => cases h
theorem addr_add (b o i : Nat) : ((⟨b, o, none⟩ : Addr).add i) = ⟨b, o + i, none⟩ := by unfold Addr.add; split <;> simp_all
theorem bd_u64 {z : Int} (h : (Lit.int .u64 z).wf = true) : 0 ≤ z ∧ z ≤ 18446744073709551615 := by simpa [Lit.wf, IntKind.min, IntKind.max, IntKind.signed, IntKind.bits] using h
/-- what is known of an item that came in -/
def It.came (x : It) : Prop := x.ch.size ≤ maxLen ∧ 0 ≤ x.wo ∧ x.wo ≤ 18446744073709551615
theorem open_items {H : Type} {enc : TypeId × Value → H} {W : World} {r : Reach} {b0 : Nat} {v : Value} {d : DataW H} {p : List MemPlace} (hv : Value.okWide Try.prog W r b0 22 v)
    (h : DataW.Trod enc Try.prog W 0 (fun _ => true) true 22 v d p) : ∃ A l c, v = .slice A l.length c ∧ Sl W W.heap.size 4 It.cells A l ∧ (∀ x ∈ l, x.came) ∧ l.length ≤ maxLen := by
  obtain ⟨a0, len, cap, rfl⟩ := okWide_slice Try.underlying22 hv
  obtain ⟨fuel, hf⟩ := h
  rcases open_slice_fields Try.underlying22 Try.underlying37 (by kernel_rfl) (by kernel_rfl) hf with ⟨hcs, _⟩ | ⟨a, len', cap', m, D, Pl, hcs, _, hl, hm, hmm, _, hi⟩
  · have hcs' : Value.slice a0 len cap = .slice none 0 0 := by simpa [Value.cells] using hcs
    injection hcs' with e1 e2 e3
    subst e1 e2 e3
    exact ⟨none, [], 0, rfl, Sl.nil _ _ _ _ _, (fun x hx => by cases hx), by simp⟩
  · have hcs' : Value.slice a0 len cap = .slice (some a) len' cap' := by simpa [Value.cells] using hcs
    injection hcs' with e1 e2 e3
    subst e1 e2 e3
    have hml : len ≤ m := by rw [hmm]; simp; exact hl
    have key : ∀ i, i < len → ∃ x : It, x.came ∧ ∀ j u, x.cells[j]? = some u → W.cell? (a.add (i * 4 + j)) = some u := by
      intro i hil
      obtain ⟨ys, n, _, _, _, hF⟩ := hi i (by omega)
      obtain ⟨v0, y0, c0, _, t0⟩ := hF 0 _ rfl
      obtain ⟨v1, y1, c1, _, t1⟩ := hF 1 _ rfl
      obtain ⟨v2, y2, c2, _, t2⟩ := hF 2 _ rfl
      obtain ⟨v3, y3, c3, _, t3⟩ := hF 3 _ rfl
      obtain ⟨s, hs, _, ws⟩ := DataW.trod_string Try.underlying9 t0
      obtain ⟨z1, hz1, _, w1⟩ := DataW.trod_int Try.underlying3 t1
      obtain ⟨z2, hz2, _, w2⟩ := DataW.trod_int Try.underlying35 t2
      obtain ⟨b, hb, _⟩ := DataW.trod_bool Try.underlying4 t3
      simp at hs hz1 hz2 hb
      subst hs hz1 hz2 hb
      refine ⟨⟨s, z1, z2, b⟩, ⟨ws, bd_u64 w2⟩, fun j u hu => ?_⟩
      match j, hu with
      | 0, hu => simp [It.cells] at hu; subst hu; exact c0
      | 1, hu => simp [It.cells] at hu; subst hu; exact c1
      | 2, hu => simp [It.cells] at hu; subst hu; exact c2
      | 3, hu => simp [It.cells] at hu; subst hu; exact c3
      | j + 4, hu => simp [It.cells] at hu
    obtain ⟨l, hll, hlp⟩ := list_of len key
    refine ⟨some a, l, cap, by rw [hll], fun hn => ?_, fun x hx => ?_, by rw [hll]; omega⟩
    · have hpos : 0 < len := by rw [← hll]; exact List.length_pos_iff.2 hn
      obtain ⟨x0, hx0⟩ : ∃ x, l[0]? = some x := ⟨_, List.getElem?_eq_getElem (by omega)⟩
      have h00 := (hlp 0 x0 hx0).2 0 _ rfl
      rw [show a.add (0 * 4 + 0) = a by simp [Addr.add]] at h00
      obtain ⟨ea, hlt⟩ := addr_at h00
      refine ⟨a.block, a.off, by rw [← ea], hlt, fun i x hx j u hu => ?_⟩
      have := (hlp i x hx).2 j u hu
      rw [ea, addr_add] at this
      rw [Nat.add_assoc]; exact this
    · obtain ⟨i, hi'⟩ := List.getElem?_of_mem hx
      exact (hlp i x hi').1

theorem maskI_bd (x : Int) : 0 ≤ maskI x ∧ maskI x < 1099511627776 := by
  have h : maskI x = IntKind.i64.wrap ((BitVec.ofInt 64 x &&& BitVec.ofInt 64 1099511627775).toNat : Int) := rfl
  have h1 : (BitVec.ofInt 64 x &&& BitVec.ofInt 64 1099511627775).toNat ≤ 1099511627775 := by
    rw [BitVec.toNat_and]; exact Nat.and_le_right
  rw [h, IntKind.wrap_i64]; omega
theorem cutS_size (s : ByteArray) : (cutS s).size ≤ 40 := by
  unfold cutS; split
  · assumption
  · simp [ByteArray.size_extract]; omega
theorem cutI_ok {l : List It} (h : ∀ x ∈ l, x.came) : ∀ x ∈ (l.take 12).map cutI, x.ok ∧ x.ch.size ≤ maxLen := by
  intro x hx
  obtain ⟨y, hy, rfl⟩ := List.mem_map.1 hx
  have hc := h y (List.mem_of_mem_take hy)
  have hm := maskI_bd y.ex
  exact ⟨⟨hm.1, hm.2, hc.2.1, hc.2.2⟩, by have := cutS_size y.ch; simp only [cutI, maxLen]; omega⟩
end Go.Proofs.Ytnkbdkpeoaobeaa
