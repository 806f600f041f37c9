/- Calls on tables that came in, opened. -/
import Derived.Test.YthmkoehocjfjgaaOpenS
import Derived.Test.YthmkoehocjfjgaaTabM

namespace Go.Proofs.Ythmkoehocjfjgaa
open Go.ChangeShapes Go.WideShapes Go.ChangeAt Go.RowKit Go.Deep
theorem bd_u8 {z : Int} (h : (Lit.int .u8 z).wf = true) : 0 ≤ z ∧ z ≤ 255 := by simpa [Lit.wf, IntKind.min, IntKind.max, IntKind.signed, IntKind.bits] using h
set_option maxRecDepth 100000 in
theorem open_ops {H : Type} {enc : TypeId × Value → H} {W : World} {r : Reach} {b0 : Nat} {v : Value} {d : DataW H} {p : List MemPlace} (hv : Value.okWide Try.prog W r b0 24 v)
    (h : DataW.Trod enc Try.prog W 0 (fun _ => true) true 24 v d p) : ∃ A l c, v = .slice A l.length c ∧ Sl W W.heap.size 3 Op3.cells A l ∧ (∀ x ∈ l, x.came) ∧ l.length ≤ maxLen := by
  obtain ⟨a0, len, cap, rfl⟩ := okWide_slice Try.underlying24 hv
  obtain ⟨fuel, hf⟩ := h
  rcases open_slice_fields Try.underlying24 Try.underlying23 (by kernel_rfl) (by kernel_rfl) hf with ⟨hcs, _⟩ | ⟨a, len', cap', m, D, Pl, hcs, _, hl, hm, hmm, _, hi⟩
  · have hcs' : Value.slice a0 len cap = .slice none 0 0 := by simpa [Value.cells] using hcs
    injection hcs' with e1 e2 e3
    subst e1 e2 e3
    exact ⟨none, [], 0, rfl, Sl.nil _ _ _ _ _, (fun x hx => by cases hx), by simp⟩
  · have hcs' : Value.slice a0 len cap = .slice (some a) len' cap' := by simpa [Value.cells] using hcs
    injection hcs' with e1 e2 e3
    subst e1 e2 e3
    have hml : len ≤ m := by rw [hmm]; simp; exact hl
    have key : ∀ i, i < len → ∃ x : Op3, x.came ∧ ∀ j u, x.cells[j]? = some u → W.cell? (a.add (i * 3 + j)) = some u := by
      intro i hil
      obtain ⟨ys, n, _, _, _, hF⟩ := hi i (by omega)
      obtain ⟨v0, y0, c0, _, t0⟩ := hF 0 _ rfl
      obtain ⟨v1, y1, c1, _, t1⟩ := hF 1 _ rfl
      obtain ⟨v2, y2, c2, _, t2⟩ := hF 2 _ rfl
      obtain ⟨z0, hz0, _, w0⟩ := DataW.trod_int Try.underlying3 t0
      obtain ⟨s1, hs1, _, ws1⟩ := DataW.trod_string Try.underlying9 t1
      obtain ⟨s2, hs2, _, ws2⟩ := DataW.trod_string Try.underlying9 t2
      simp at hz0 hs1 hs2
      subst hz0 hs1 hs2
      refine ⟨⟨z0, s1, s2⟩, ⟨ws1, ws2⟩, fun j u hu => ?_⟩
      match j, hu with
      | 0, hu => simp [Op3.cells] at hu; subst hu; exact c0
      | 1, hu => simp [Op3.cells] at hu; subst hu; exact c1
      | 2, hu => simp [Op3.cells] at hu; subst hu; exact c2
      | j + 3, hu => simp [Op3.cells] at hu
    obtain ⟨l, hll, hlp⟩ := list_of len key
    refine ⟨some a, l, cap, by rw [hll], fun hn => ?_, fun x hx => ?_, by rw [hll]; omega⟩
    · have hpos : 0 < len := by rw [← hll]; exact List.length_pos_iff.2 hn
      obtain ⟨x0, hx0⟩ : ∃ x, l[0]? = some x := ⟨_, List.getElem?_eq_getElem (by omega)⟩
      have h00 := (hlp 0 x0 hx0).2 0 _ rfl
      rw [show a.add (0 * 3 + 0) = a by simp [Addr.add]] at h00
      obtain ⟨ea, hlt⟩ := addr_at h00
      refine ⟨a.block, a.off, by rw [← ea], hlt, fun i x hx j u hu => ?_⟩
      have := (hlp i x hx).2 j u hu
      rw [ea, addr_add] at this
      rw [Nat.add_assoc]; exact this
    · obtain ⟨i, hi'⟩ := List.getElem?_of_mem hx
      exact (hlp i x hi').1
end Go.Proofs.Ythmkoehocjfjgaa
