/- ChainRefuses: the walk. The calls of law12 that came in, opened. ChainMakes: the walk. -/
import Derived.Outline
import Derived.Deep.RegionHeld3
import Derived.ChangeMaps5
import Derived.Test.YtjcinncphffgaaaGreatMjK11
import Derived.Test.YtjcinncphffgaaaGreatMjK3
import Derived.Test.YtjcinncphffgaaaGreatMjK8
import Derived.Test.YtjcinncphffgaaaGreatMjK9
set_option linter.unusedVariables false
set_option linter.unusedSimpArgs false
namespace Go.Proofs.YtjcinncphffgaaaGreat
open Go.RowKit Go.Maps
theorem good_ts {l : List Ou} (hn : newU l = true) (h8 : l.length ≤ 8) (ha : ∀ o ∈ l, o.am < 18446744073709551616 ∧ o.unit < 18446744073709551616) : TS (utN (firstB l) l) ∧ (utN (firstB l) l).length ≤ 8 := ⟨⟨tok_new hn h8 ha, utN_srtK _ _⟩, by rw [utN_len]; exact h8⟩
section
variable {w0 w w' : World} {b : Bm} {T0 : List En} {cb : Nat} {m m' : CnM} {s s' : Cn}
end
/-- a block made of no transactions can be laid behind -/
theorem good_push {T0 : List En} {s : Cn} (hs : Good T0 s) {b : Bm} {k : Bk} (hp : pushC s b.bk = 0) (ha : b.bk.al k) (hx : ∀ t ∈ b.txs, TxOk t) : Good T0 (pushS s k) := .push s k hs ((push_al (Cn.al.refl s) ha.symm).1.trans hp) (fun t ht => by
  have h := ha.txs
  obtain ⟨i, hi⟩ := List.getElem?_of_mem ht
  have hlen := h.len
  have hi' : i < k.txs.length := (List.getElem?_eq_some_iff.1 hi).1
  have h2 : b.bk.txs[i]? = some (b.bk.txs[i]'(by omega)) := List.getElem?_eq_getElem _
  exact al_ok (h.get i _ _ h2 hi) (hx _ (List.mem_of_getElem? h2)))
end Go.Proofs.YtjcinncphffgaaaGreat
namespace Go.Proofs.YtjcinncphffgaaaGreat
open Go.ChangeShapes Go.WideShapes Go.ChangeAt Go.RowKit Go.Deep
/-- a call: which, a block, transactions -/
structure Om where
  k : Int
  b : Bm
  A : Option Addr
  txs : List Txn
  c : Nat
def Om.cs (o : Om) : Array Value := #[.int .i64 o.k, .int .i64 o.b.h, .string o.b.prev, .slice o.b.A o.b.txs.length o.b.c, .slice o.A o.txs.length o.c]
def Om.cl (o : Om) : List Value := o.cs.toList
structure OmCame (w : World) (o : Om) : Prop where
  blk : BkCame w o.b
  sl : Sl w w.heap.size 6 Txn.cl o.A o.txs
  txs : ∀ t ∈ o.txs, TxCame w t
  len : o.txs.length ≤ maxLen
theorem OmCame.bel {w w' : World} {o : Om} (h : OmCame w o) (hb : Below w.heap.size w w') : OmCame w' o := ⟨h.blk.bel hb, (h.sl.below hb).more hb.size, fun t ht => (h.txs t ht).bel hb, h.len⟩
section
variable {H : Type} {enc : TypeId × Value → H} {w : World} {base : Nat} {sp : Nat → Bool} {held : Bool}
theorem cel_Om : Tryz.prog.cellsOf 39 = 5 := by kernel_rfl
theorem tr_Om {cs : List Value} (h : TR enc w base sp held 39 cs) : ∃ o : Om, cs = o.cl ∧ OmCame w o := by
  have f0 := tr_field h Tryz.underlying39 0 _ rfl 0 1 3 rfl rfl cel_int
  have f1 := tr_field h Tryz.underlying39 1 _ rfl 1 3 37 rfl rfl cel_Bk
  have f2 := tr_field h Tryz.underlying39 2 _ rfl 4 1 32 rfl rfl cel_Txs
  have hl := tr_len h Tryz.underlying39 5 cel_Om
  obtain ⟨x0, e0, b0⟩ := tr_int f0
  obtain ⟨b, e1, hb⟩ := tr_Bk f1
  obtain ⟨A2, x2, c2, e2, s2, q2, l2⟩ := tr_slice (en := Txn.cl) (Q := TxCame w) Tryz.underlying32 cel_Tx (fun _ => rfl) (by omega) (fun cs h => tr_Tx h) f2
  have hc : cs = (cs.drop 0).take 1 ++ ((cs.drop 1).take 3 ++ ((cs.drop 4).take 1)) := by
    have e := List.drop_zero (l := cs)
    rw [dt cs 0 1, dt cs 1 3, dt cs 4 1, dt_end hl, List.append_nil] at e
    exact e.symm
  rw [e0, e1, e2] at hc
  exact ⟨⟨x0, b, A2, x2, c2⟩, hc, hb, s2, q2, l2⟩
end
set_option maxRecDepth 100000 in
theorem open_oms {H : Type} {enc : TypeId × Value → H} {W : World} {r : Reach} {b0 : Nat} {v : Value} {d : DataW H} {p : List MemPlace} (hv : Value.okWide Tryz.prog W r b0 23 v)
    (h : DataW.Trod enc Tryz.prog W 0 (fun _ => true) true 23 v d p) : ∃ A l c, v = .slice A l.length c ∧ Sl W W.heap.size 5 Om.cl A l ∧ (∀ x ∈ l, OmCame W x) ∧ l.length ≤ maxLen := by
  obtain ⟨a0, len, cap, rfl⟩ := okWide_slice Tryz.underlying23 hv
  obtain ⟨A, l, c, hc, hs, hq, hl⟩ := tr_slice (en := Om.cl) (Q := OmCame W) Tryz.underlying23 cel_Om (fun _ => rfl) (by omega) (fun cs h => tr_Om h) (tr_cells h)
  injection hc with hc _
  exact ⟨A, l, c, hc, hs, hq, hl⟩
end Go.Proofs.YtjcinncphffgaaaGreat
namespace Go.Proofs.YtjcinncphffgaaaGreat
open Go.RowKit Go.Maps
/-- the chain of a law -/
structure MkC (w0 : World) (T0 : List En) (cb : Nat) (m : CnM) (s : Cn) (w : World) : Prop where
  cn : CnAt w cb m s
  good : Good T0 s
  bel : Below w0.heap.size w0 w
section
variable {w0 w w' : World} {T0 : List En} {cb : Nat} {m m' : CnM} {s s' : Cn} {A : Option Addr} {D : List Txn} {b d : Bm} {g13 g14 : Nat}
theorem MkC.go (h : MkC w0 T0 cb m s w) (hb : Below w.heap.size w w') : MkC w0 T0 cb m s w' := ⟨h.cn.bel hb, h.good, h.bel.trans (hb.mono h.bel.size)⟩
theorem MkC.to (h : MkC w0 T0 cb m s w) (hc : Ch [cb] w w') (hw : w0.heap.size ≤ cb) (hg : Good T0 s') (hk : CnAt w' cb m' s') : MkC w0 T0 cb m' s' w' := ⟨hk, hg, h.bel.trans (hc.below h.bel.size (by simpa using hw))⟩
end
end Go.Proofs.YtjcinncphffgaaaGreat
