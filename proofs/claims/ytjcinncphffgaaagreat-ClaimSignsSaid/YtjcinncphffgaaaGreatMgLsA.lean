/- law18's ClaimSigns: what is signed. -/
import Derived.Test.YtjcinncphffgaaaGreatMgG33
import Derived.Test.YtjcinncphffgaaaGreatMgG44
import Derived.Test.YtjcinncphffgaaaGreatMgMerk
import Derived.Test.YtjcinncphffgaaaGreatMgNum
import Derived.Test.YtjcinncphffgaaaGreatMgSgA
import Derived.Test.YtjcinncphffgaaaGreatMgSgD
import Derived.Test.YtjcinncphffgaaaGreatMgSgE
import Derived.Test.YtjcinncphffgaaaGreatMgSmT
set_option linter.unusedVariables false
set_option linter.unusedSimpArgs false
namespace Go.Proofs.YtjcinncphffgaaaGreat
open Go.RowKit Go.Maps
theorem insT_sg (sig : ByteArray) (l : List Inp) (s : ByteArray) : insT (l.map (sgI sig)) s = insT l s := by
  unfold insT
  rw [List.foldl_map]
  rfl
theorem insB_sg {sig : ByteArray} {l : List Inp} (h : insB l = true) (hs : sig.size ≤ 400) : insB (l.map (sgI sig)) = true := by
  unfold insB at h ⊢
  rw [Bool.and_eq_true, List.all_eq_true, decide_eq_true_eq] at h
  rw [Bool.and_eq_true, List.all_eq_true, decide_eq_true_eq, List.map_map]
  refine ⟨fun x hx => ?_, h.2⟩
  obtain ⟨y, hy, rfl⟩ := List.mem_map.1 hx
  have h1 := h.1 y hy
  simp only [inB, Bool.and_eq_true, decide_eq_true_eq] at h1 ⊢
  exact ⟨h1.1, hs⟩
theorem right_sg {t : Txn} {sig : ByteArray} (h : rightT t = true) (hs : sig.size ≤ 400) : rightT (sgA t sig) = true := by
  have h' := h
  unfold rightT at h' ⊢
  rw [Bool.and_eq_true] at h' ⊢
  refine ⟨insB_sg h'.1 hs, ?_⟩
  show (winB4 (t.ins.map (sgI sig)).length && _) = true
  rw [List.length_map]
  exact h'.2
theorem core_sg {t : Txn} {sig : ByteArray} (h : rightT t = true) (hs : sig.size ≤ 400) : coreX (sgA t sig) = coreX t := by
  unfold coreX
  rw [if_pos h, if_pos (right_sg h hs)]
  unfold coreT headT
  show outsT t.outs (insT (t.ins.map (sgI sig)) (ByteArray.empty ++ strOfNums [67] ++ strOfNums [((t.ins.map (sgI sig)).length : Int)]) ++ _) = _
  rw [insT_sg, List.length_map]
  rfl
/-- v is u, signed -/
structure SgV (u v : Txn) (sig : ByteArray) : Prop where
  core : coreX v = coreX u
  len : v.ins.length = u.ins.length
  ok : TxOk v
  sigs : ∀ x ∈ v.ins, x.sig = sig
  am : v.p.am = u.p.am
  sig : v.p.sig = u.p.sig
  tok : v.p.tok = u.p.tok
  l : v.p.l = u.p.l
theorem SgV.mk_ {u : Txn} {sig : ByteArray} (hr : rightT u = true) (hs : sig.size ≤ 400) (hk : TxOk u) (A : Option Addr) (c : Nat) (B : Option Addr) (d : Nat) (P : Option Addr) (e : Nat) : SgV u (sgA (cpT u A c B d P e) sig) sig := by
  have h1 : rightT (cpT u A c B d P e) = true := (al_right (cpT_al u A c B d P e)).symm.trans hr
  refine ⟨(core_sg h1 hs).trans (al_core (cpT_al u A c B d P e)).symm, ?_, ⟨?_, hk.outs, ⟨hk.pf.len, hk.pf.fit, hk.pf.sig, hk.pf.am⟩, hk.out⟩, ?_, rfl, rfl, rfl, rfl⟩
  · show (u.ins.map (sgI sig)).length = _
    rw [List.length_map]
  · show (u.ins.map (sgI sig)).length ≤ _
    rw [List.length_map]; exact hk.ins
  · intro x h
    obtain ⟨y, _, rfl⟩ := List.mem_map.1 h
    rfl
/-- the walk's: the transaction in its block, the key -/
structure LsS (w0 : World) (u : Txn) (N1 kb cb : Nat) (sd : ByteArray) (r q : Nat) (W : World) : Prop where
  hd : Blk W w0.heap.size 53 u.cs
  rows : TxRows N1 W u
  key : KeyAt W kb cb sd r q
  bel : Below w0.heap.size w0 W
  lo : w0.heap.size < cb
section
variable {w0 : World} {u : Txn} {N1 kb cb : Nat} {sd : ByteArray} {r q : Nat} {W W' : World}
theorem LsS.go (h : LsS w0 u N1 kb cb sd r q W) (hb : Below W.heap.size W W') : LsS w0 u N1 kb cb sd r q W' := ⟨h.hd.bel hb, h.rows.bel hb, h.key.bel hb, h.bel.trans (hb.mono h.bel.size), h.lo⟩
theorem LsS.sign {q' : Nat} (h : LsS w0 u N1 kb cb sd r q W) (k : KeyAt W' kb cb sd r q') (hc : Ch [cb] W W') : LsS w0 u N1 kb cb sd r q' W' :=
  ⟨h.hd.ch hc (by have := h.lo; simp; omega), h.rows.ch hc h.key.cnt.kdT (by decide) (by decide) (by decide), k, h.bel.trans (hc.below h.bel.size (by have := h.lo; simp; omega)), h.lo⟩
theorem LsS.ctr (h : LsS w0 u N1 kb cb sd r q W) : W.cell? ⟨kb, 0, none⟩ = some (.pointer (some ⟨cb, 0, none⟩)) := by
  obtain ⟨vl, k1, _, _⟩ := h.key
  exact k1.cell 0
end
theorem mod3 (n r : Nat) (hn : n < 256) (hr : r = n % 3) : Int.tmod (n : Int) 3 = (r : Int) ∧ (n : Int) % 3 = (r : Int) ∧ IntKind.i64.wrap (n : Int) = (n : Int) ∧ wrap64 (n : Int) = (n : Int) ∧ IntKind.i64.wrap (r : Int) = (r : Int) ∧ wrap64 (r : Int) = (r : Int) :=
  ⟨by rw [Int.tmod_eq_emod_of_nonneg (by omega)]; omega, by omega, IntWalk.i64_in _ (by omega), IntWalk.wrap64_in _ ⟨by omega, by omega⟩, IntWalk.i64_in _ (by omega), IntWalk.wrap64_in _ ⟨by omega, by omega⟩⟩
end Go.Proofs.YtjcinncphffgaaaGreat
