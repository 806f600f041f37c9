/- law18's fixed: what its walk carries. -/
import Derived.Outline
import Derived.Deep.RegionHeld3
import Derived.Deep.DeepCutAuto
import Derived.Deep.CutBlock
import Derived.Test.YtjcinncphffgaaaGreatMiFixK
import Derived.Test.YtjcinncphffgaaaGreatMiFqA
import Derived.Test.YtjcinncphffgaaaGreatMiNum
import Derived.Test.YtjcinncphffgaaaGreatMiSmC
set_option linter.unusedVariables false
set_option linter.unusedSimpArgs false
namespace Go.Proofs.YtjcinncphffgaaaGreat
section
open Go.RowKit Go.Maps
/-- two keys, the outputs, their list -/
structure F8 (w0 : World) (kb cb i kg cg j sb b ab off : Nat) (W : World) : Prop where
 t : TwoK W kb cb sdC 1 i kg cg sdG 0 j
 s : SetAt W sb b L11
 sl : Sl W W.heap.size 11 En.cl (some ⟨ab, off, none⟩) L11
 bel : Below w0.heap.size w0 W
 lo : w0.heap.size ≤ cb ∧ w0.heap.size ≤ cg
section
variable {w0 W W' : World} {kb cb i kg cg j sb b ab off : Nat}
theorem F8.at_ (h : F8 w0 kb cb i kg cg j sb b ab off W) : ab < W.heap.size ∧ (∀ q u, l0C.cl[q]? = some u → W.cell? ⟨ab, off + q, none⟩ = some u) ∧ (∀ q u, l1C.cl[q]? = some u → W.cell? ⟨ab, off + 11 + q, none⟩ = some u) := by
 obtain ⟨b', off', e, hlt, hc⟩ := h.sl (by simp [L11])
 injection e with e
 injection e with e1 e2
 subst e1 e2
 exact ⟨hlt, fun q u hu => by have := hc 0 l0C rfl q u hu; simpa using this, fun q u hu => by have := hc 1 l1C rfl q u hu; simpa using this⟩
theorem F8.go (h : F8 w0 kb cb i kg cg j sb b ab off W) (hb : Below W.heap.size W W') : F8 w0 kb cb i kg cg j sb b ab off W' := ⟨h.t.bel hb, h.s.bel hb, sl_bel h.sl hb, h.bel.trans (hb.mono h.bel.size), h.lo⟩
theorem F8.signC {i' : Nat} (h : F8 w0 kb cb i kg cg j sb b ab off W) (k : KeyAt W' kb cb sdC 1 i') (hc : Ch [cb] W W') : F8 w0 kb cb i' kg cg j sb b ab off W' :=
 ⟨h.t.signC hc k, h.s.key h.t.kc hc, sl_keyT (j0 := 0) h.sl h.t.kc hc (fun x => ⟨x.tx, rfl⟩), h.bel.trans (hc.below h.bel.size (by have := h.lo; simp; omega)), h.lo⟩
theorem F8.signG {j' : Nat} (h : F8 w0 kb cb i kg cg j sb b ab off W) (k : KeyAt W' kg cg sdG 0 j') (hc : Ch [cg] W W') : F8 w0 kb cb i kg cg j' sb b ab off W' :=
 ⟨h.t.signG hc k, h.s.key h.t.kg hc, sl_keyT (j0 := 0) h.sl h.t.kg hc (fun x => ⟨x.tx, rfl⟩), h.bel.trans (hc.below h.bel.size (by have := h.lo; simp; omega)), h.lo⟩
/-- a block of the call's own is written -/
theorem F8.own {g : Nat} {t : TypeId} (h : F8 w0 kb cb i kg cg j sb b ab off W) (hc : Ch [g] W W') (hk : KdT W g t) (hlt : ab < g) (hw : w0.heap.size ≤ g) (h1 : t ≠ 68) (h2 : t ≠ 160) (h3 : t ≠ 9) (h4 : t ≠ 186) : F8 w0 kb cb i kg cg j sb b ab off W' := by
 refine ⟨⟨h.t.kc.kd hc hk h1 h2 h3, h.t.kg.kd hc hk h1 h2 h3, h.t.ne⟩, ⟨h.s.hd.ch hc (by simp only [List.mem_singleton]; exact h.s.hd.kdT.ne_ hk (Ne.symm h4)), h.s.ut.ch hc (by
  obtain ⟨c, fz, hk⟩ := hk
  simp only [List.mem_singleton]
  rintro rfl
  obtain ⟨D, ⟨es, clock, hb, _⟩, _⟩ := h.s.ut.own
  rw [hb] at hk; cases hk)⟩, ?_, h.bel.trans (hc.below h.bel.size (by simpa using hw)), h.lo⟩
 intro hn
 obtain ⟨b', off', e, hb', hcl⟩ := h.sl hn
 injection e with e
 injection e with e1 e2
 subst e1 e2
 refine ⟨ab, off, rfl, Nat.lt_of_lt_of_le hb' hc.size, fun q x hx p u hu => ?_⟩
 rw [← hcl q x hx p u hu]
 unfold World.cell?
 rw [hc.block ab hb' (by simp; omega)]
end
theorem step_load_blk {ops : Array Oper} {o : Oper} {a : Act} {w : World} {K : Act → World → Prop} {Q : Exit → Act → World → Prop} {E : Prop} (hw : Region.wanted o (yielded ops a.tmps) = true) (ty : TypeId) (x : Operand) (ho : o.op = .load ty x)
  (g off n : Nat) {t : TypeId} {cs : Array Value} {fs : Array Field} (hb : Blk w g t cs) (part : Array Value) (hx : a.eval x = .pointer (some ⟨g, off, none⟩)) (hp : cs.extract off (off + n) = part)
  (hu : Tryz.prog.underlying ty = some (.struct fs)) (hi : (Tryz.prog.info? ty).map (·.size) = some n) (hn : off + n ≤ cs.size) (h : K (a.put o.dst (.agg part)) w) : if Region.wanted o (yielded ops a.tmps) = true then Oper.wp Tryz.prog o a w K Q else E := by
 subst hp
 rw [if_pos hw]
 refine wp_load_mid ty x ho g off hx (cs.extract off (off + n)).toList _ (World.rangeAt_of_block (w := w) (b := g) (C := cs) (t := t) (fr := (0, 0)) hb off n) hu rfl (by rw [hi]; simp; omega) ?_
 rw [Array.toArray_toList]
 exact h
theorem l11_am : ∀ e ∈ L11, e.o.am < 18446744073709551616 := by
 intro e he
 rcases List.mem_cons.1 he with rfl | he
 ·show (100 : Nat) < _; decide
 ·rw [List.mem_singleton.1 he]; show (20 : Nat) < _; decide
theorem yields_pt {ops : Array Oper} {S : World → Prop} {op : Oper} {a : Act} (hw : Region.wanted op (yielded ops a.tmps) = true) (x : Operand) (ho : op.op = .load 57 x)
  (g off : Nat) (tx : ByteArray) (out : Int) (hS : ∀ w, S w → ∀ j u, (ptCl (tx, out))[j]? = some u → w.cell? ⟨g, off + j, none⟩ = some u) (hx : a.eval x = .pointer (some ⟨g, off, none⟩)) : YieldsIf Tryz.prog ops S op (.agg #[.string tx, .int .i64 out]) a :=
 yieldsIf_load_mid (P := Tryz.prog) (ops := ops) (S := S) hw 57 x ho g off hx (ptCl (tx, out)) _ (fun w h => hS w h) Tryz.underlying57 rfl (by kernel_rfl)
theorem l0_pt {W : World} {ab off : Nat} (h : ∀ q u, l0C.cl[q]? = some u → W.cell? ⟨ab, off + q, none⟩ = some u) : ∀ j u, (ptCl (tx11, 0))[j]? = some u → W.cell? ⟨ab, off + j, none⟩ = some u := fun j u hu => h j u (by
 match j, hu with
 | 0, hu => exact hu
 | 1, hu => exact hu
 | j + 2, hu => simp [ptCl] at hu)
/-- what is carried behind the transactions -/
structure Q8 (w0 : World) (kb cb kg cg sb b ab off g16 N1 : Nat) (t1 : Txn) (g20 N2 : Nat) (t2 : Txn) (W : World) : Prop where
 f : F8 w0 kb cb 2 kg cg 1 sb b ab off W
 h1 : Blk W g16 53 t1.cs
 r1 : TxRows N1 W t1
 h2 : Blk W g20 53 t2.cs
 r2 : TxRows N2 W t2
theorem Q8.go {w0 : World} {kb cb kg cg sb b ab off g16 N1 : Nat} {t1 : Txn} {g20 N2 : Nat} {t2 : Txn} {W W' : World} (h : Q8 w0 kb cb kg cg sb b ab off g16 N1 t1 g20 N2 t2 W) (hb : Below W.heap.size W W') : Q8 w0 kb cb kg cg sb b ab off g16 N1 t1 g20 N2 t2 W' := ⟨h.f.go hb, h.h1.bel hb, h.r1.bel hb, h.h2.bel hb, h.r2.bel hb⟩
/-- .. and an entry -/
structure Q9 (w0 : World) (kb cb kg cg sb b ab off g16 N1 : Nat) (t1 : Txn) (g20 N2 : Nat) (t2 : Txn) (g25 : Nat) (W : World) : Prop where
 q : Q8 w0 kb cb kg cg sb b ab off g16 N1 t1 g20 N2 t2 W
 e : Blk W g25 89 p50.cs
theorem Q9.go {w0 : World} {kb cb kg cg sb b ab off g16 N1 : Nat} {t1 : Txn} {g20 N2 : Nat} {t2 : Txn} {g25 : Nat} {W W' : World} (h : Q9 w0 kb cb kg cg sb b ab off g16 N1 t1 g20 N2 t2 g25 W) (hb : Below W.heap.size W W') : Q9 w0 kb cb kg cg sb b ab off g16 N1 t1 g20 N2 t2 g25 W' := ⟨h.q.go hb, h.e.bel hb⟩
/-- a block laid, and what was done since, and the block written -/
theorem bel_st3 {X Y Z : World} (h : Below X.heap.size X Y) (hc : Ch [X.heap.size] Y Z) : Below X.heap.size X Z := h.trans (hc.below h.size (by simp))
/-- .. and what Fund makes -/
structure Q10 (w0 : World) (kb cb kg cg sb b ab off g16 N1 : Nat) (t1 : Txn) (g20 N2 : Nat) (t2 : Txn) (g25 g26 N3 : Nat) (t3 : Txn) (W : World) : Prop where
 q : Q9 w0 kb cb kg cg sb b ab off g16 N1 t1 g20 N2 t2 g25 W
 h3 : Blk W g26 53 t3.cs
 r3 : TxRows N3 W t3
 o3 : t3.outs = [payO 30 rG, payO 10 rC]
theorem Q10.go {w0 : World} {kb cb kg cg sb b ab off g16 N1 : Nat} {t1 : Txn} {g20 N2 : Nat} {t2 : Txn} {g25 g26 N3 : Nat} {t3 : Txn} {W W' : World} (h : Q10 w0 kb cb kg cg sb b ab off g16 N1 t1 g20 N2 t2 g25 g26 N3 t3 W) (hb : Below W.heap.size W W') : Q10 w0 kb cb kg cg sb b ab off g16 N1 t1 g20 N2 t2 g25 g26 N3 t3 W' := ⟨h.q.go hb, h.h3.bel hb, h.r3.bel hb, h.o3⟩
theorem en_at1 {W : World} {g : Nat} {x : En} (h : Blk W g 89 x.cs) : ∀ q u, x.cl[q]? = some u → W.cell? ⟨g, 0 + q, none⟩ = some u := fun q u hu => by
 rw [Nat.zero_add, h.cell]
 simpa [En.cl] using hu
theorem blk_outs {W : World} {g : Nat} {t : Txn} {n : Nat} (h : Blk W g 53 t.cs) (hn : t.outs.length = n) : W.cell? ⟨g, 1, none⟩ = some (.slice t.B n t.d) := by
 subst hn
 exact h.cell 1
theorem out_rows {N : Nat} {W : World} {t : Txn} {L : List Ou} (h : TxRows N W t) (ho : t.outs = L) (hn : L ≠ []) : ∃ b o, t.B = some ⟨b, o, none⟩ ∧ ∀ i x, L[i]? = some x → ∀ j u, x.cl[j]? = some u → W.cell? ⟨b, o + i * 9 + j, none⟩ = some u := by
 subst ho
 obtain ⟨b, o, e, _, hc⟩ := h.mem.outs hn
 exact ⟨b, o, e, hc⟩
/-- the keys, the outputs -/
theorem rC_eq : rootB sdC 1 = rC := rfl
theorem rG_eq : rootB sdG 0 = rG := rfl
end
end Go.Proofs.YtjcinncphffgaaaGreat
