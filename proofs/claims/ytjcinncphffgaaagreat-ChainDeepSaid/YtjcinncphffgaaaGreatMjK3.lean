/- Blocks and chains in memory. Blocks that came in, opened. -/
import Derived.ChangeMaps5
import Derived.Test.YtjcinncphffgaaaGreatMjG44
import Derived.Test.YtjcinncphffgaaaGreatMjK1
import Derived.Test.YtjcinncphffgaaaGreatMjK2
import Derived.Test.YtjcinncphffgaaaGreatMjN4
import Derived.Test.YtjcinncphffgaaaGreatMjN5
set_option linter.unusedVariables false
set_option linter.unusedSimpArgs false
namespace Go.Proofs.YtjcinncphffgaaaGreat
open Go.RowKit Go.Maps
theorem txcl_len (t : Txn) : t.cl.length = 6 := rfl
theorem txcl_one (t : Txn) : ∀ u ∈ t.cl, u.oneCell' = true := fun u hu => Array.all_eq_true'.1 (txncs_one t) u (by simpa [Txn.cl] using hu)
/-- a block, its list's place in it -/
structure Bm where
  h : Int
  prev : ByteArray
  A : Option Addr
  txs : List Txn
  c : Nat
def Bm.cs (b : Bm) : Array Value := #[.int .i64 b.h, .string b.prev, .slice b.A b.txs.length b.c]
def Bm.cl (b : Bm) : List Value := b.cs.toList
def Bm.bk (b : Bm) : Bk := ⟨b.h, b.prev, b.txs⟩
theorem bmcs_one (b : Bm) : b.cs.all (·.oneCell') = true := by
  rw [Array.all_eq_true']
  intro x hx
  simp only [Bm.cs, List.mem_toArray, List.mem_cons, List.not_mem_nil, or_false] at hx
  rcases hx with rfl | rfl | rfl <;> rfl
theorem bm_over (b : Bm) {cs : Array Value} (h : cs.size = 3) : over cs 0 b.cs.toList = b.cs := (over_full b.cs.toList cs (by rw [h]; rfl)).trans (Array.toArray_toList ..)
theorem bm_ext (b : Bm) : b.cs.extract 0 (0 + 3) = b.cs := by rfl
def zBm : Bm := ⟨0, ByteArray.empty, none, [], 0⟩
theorem infoBk : (Tryz.prog.info? 37).map (·.size) = some 3 := by kernel_rfl
structure Bm.mem (b : Bm) (w : World) : Prop where
  sl : Sl w w.heap.size 6 Txn.cl b.A b.txs
  txs : ∀ t ∈ b.txs, t.mem w ∧ t.nz
  nz : b.A = none → b.c = 0
theorem Bm.mem.bel {b : Bm} {w w' : World} (h : b.mem w) (hb : Below w.heap.size w w') : b.mem w' :=
  ⟨(h.sl.below hb).more hb.size, fun t ht => ⟨(h.txs t ht).1.bel hb, (h.txs t ht).2⟩, h.nz⟩
theorem zbm_mem (w : World) : zBm.mem w := ⟨Sl.nil _ _ _ _ _, (fun t ht => by cases ht), fun _ => rfl⟩
theorem infoTx6 : (Tryz.prog.info? 53).map (·.size) = some 6 := by kernel_rfl
/-- one of a list of transactions is read -/
theorem wpList_load_tx {ops : Array Oper} {rest : List Oper} {o : Oper} {a : Act} {w : World} {Q : Exit → Act → World → Prop} (hgd : o.guard = none) (x : Operand) (ho : o.op = .load 53 x) (b off : Nat) (hx : a.eval x = .pointer (some ⟨b, off, none⟩)) (y : Txn)
    (hc : ∀ j u, y.cl[j]? = some u → w.cell? ⟨b, off + j, none⟩ = some u) (h : wpList Tryz.prog ops Q rest (a.put o.dst (.agg y.cs)) w) : wpList Tryz.prog ops Q (o :: rest) a w := by
  refine wpList_load_mid (P := Tryz.prog) hgd 53 x ho b off hx y.cl _ hc Tryz.underlying53 rfl (by rw [infoTx6]; rfl) ?_
  show wpList Tryz.prog ops Q rest (a.put o.dst (.agg y.cs.toList.toArray)) w
  rw [Array.toArray_toList]
  exact h
/-- a list survives a write into a block that it can't lie in -/
theorem Sl.chH {α : Type} {w w' : World} {B k cb : Nat} {t : TypeId} {cs : Array Value} {enc : α → List Value} {A : Option Addr} {l : List α} (h : Sl w B k enc A l) (hb : Blk w cb t cs) (hx : ∀ (x : α) (o : Nat), ∃ (j : Nat) (u : Value), (enc x)[j]? = some u ∧ cs[o + j]? ≠ some u) (hc : Ch [cb] w w') (hB : B ≤ w.heap.size) : Sl w' B k enc A l := fun hn => by
  obtain ⟨b, off, e, hlt, hcell⟩ := h hn
  have hne : b ≠ cb := by
    rintro rfl
    obtain ⟨x, r, rfl⟩ := List.exists_cons_of_ne_nil hn
    obtain ⟨j, u, h1, h2⟩ := hx x (off + 0 * k)
    have h3 := hcell 0 x rfl j u h1
    rw [hb.cell] at h3
    exact h2 h3
  have hbk : w'.heap[b]? = w.heap[b]? := hc.block b (by omega) (by simpa using hne)
  refine ⟨b, off, e, hlt, fun i x hi j u hu => ?_⟩
  rw [← hcell i x hi j u hu]
  simp only [World.cell?, hbk]
/-- the cells of a chain -/
def cnH (f : ByteArray) (A : Option Addr) (n c sb : Nat) : Array Value := #[.string f, .slice A n c, .pointer (some ⟨sb, 0, none⟩)]
section
variable (f : ByteArray) (A : Option Addr) (n c sb : Nat)
theorem cnH_tx (x : Txn) (o : Nat) : ∃ (j : Nat) (u : Value), x.cl[j]? = some u ∧ (cnH f A n c sb)[o + j]? ≠ some u := by
  match o with
  | 0 => exact ⟨0, _, rfl, by simp [cnH]⟩
  | 1 => exact ⟨1, _, rfl, by simp [cnH]⟩
  | 2 => exact ⟨0, _, rfl, by simp [cnH]⟩
  | o + 3 => exact ⟨0, _, rfl, by simp [cnH]⟩
theorem cnH_in (x : Inp) (o : Nat) : ∃ (j : Nat) (u : Value), x.cl[j]? = some u ∧ (cnH f A n c sb)[o + j]? ≠ some u := by
  match o with
  | 0 => exact ⟨1, _, rfl, by simp [cnH]⟩
  | 1 => exact ⟨0, _, rfl, by simp [cnH]⟩
  | 2 => exact ⟨0, _, rfl, by simp [cnH]⟩
  | o + 3 => exact ⟨0, _, rfl, by simp [cnH]⟩
theorem cnH_ou (x : Ou) (o : Nat) : ∃ (j : Nat) (u : Value), x.cl[j]? = some u ∧ (cnH f A n c sb)[o + j]? ≠ some u := by
  match o with
  | 0 => exact ⟨0, _, rfl, by simp [cnH]⟩
  | 1 => exact ⟨0, _, rfl, by simp [cnH]⟩
  | 2 => exact ⟨0, _, rfl, by simp [cnH]⟩
  | o + 3 => exact ⟨0, _, rfl, by simp [cnH]⟩
theorem cnH_wn (x : Wn) (o : Nat) : ∃ (j : Nat) (u : Value), x.cl[j]? = some u ∧ (cnH f A n c sb)[o + j]? ≠ some u := by
  match o with
  | 0 => exact ⟨1, _, rfl, by simp [cnH]⟩
  | 1 => exact ⟨0, _, rfl, by simp [cnH]⟩
  | 2 => exact ⟨0, _, rfl, by simp [cnH]⟩
  | o + 3 => exact ⟨0, _, rfl, by simp [cnH]⟩
end
/-- a link, its block's and its outputs' places in it -/
structure Lm where
  b : Bm
  sb : Nat
  mb : Nat
def Lm.cs (x : Lm) : Array Value := #[.int .i64 x.b.h, .string x.b.prev, .slice x.b.A x.b.txs.length x.b.c, .pointer (some ⟨x.sb, 0, none⟩)]
def Lm.cl (x : Lm) : List Value := x.cs.toList
theorem lmcs_one (x : Lm) : x.cs.all (·.oneCell') = true := by
  rw [Array.all_eq_true']
  intro y hy
  simp only [Lm.cs, List.mem_toArray, List.mem_cons, List.not_mem_nil, or_false] at hy
  rcases hy with rfl | rfl | rfl | rfl <;> rfl
theorem cnH_lm (f : ByteArray) (A : Option Addr) (n c sb : Nat) (x : Lm) (o : Nat) : ∃ (j : Nat) (u : Value), x.cl[j]? = some u ∧ (cnH f A n c sb)[o + j]? ≠ some u := by
  match o with
  | 0 => exact ⟨0, _, rfl, by simp [cnH]⟩
  | 1 => exact ⟨0, _, rfl, by simp [cnH]⟩
  | 2 => exact ⟨0, _, rfl, by simp [cnH]⟩
  | o + 3 => exact ⟨0, _, rfl, by simp [cnH]⟩
section
variable {w w' : World} {cb : Nat} {f : ByteArray} {A : Option Addr} {n c sb : Nat}
theorem Txn.mem.cn {t : Txn} (h : t.mem w) (hb : Blk w cb 136 (cnH f A n c sb)) (hc : Ch [cb] w w') : t.mem w' :=
  ⟨((h.ins.chH hb (cnH_in f A n c sb) hc (Nat.le_refl _)).more hc.size), ((h.outs.chH hb (cnH_ou f A n c sb) hc (Nat.le_refl _)).more hc.size), ((h.wins.chH hb (cnH_wn f A n c sb) hc (Nat.le_refl _)).more hc.size)⟩
theorem Bm.mem.cn {b : Bm} (h : b.mem w) (hb : Blk w cb 136 (cnH f A n c sb)) (hc : Ch [cb] w w') : b.mem w' :=
  ⟨((h.sl.chH hb (cnH_tx f A n c sb) hc (Nat.le_refl _)).more hc.size), fun t ht => ⟨(h.txs t ht).1.cn hb hc, (h.txs t ht).2⟩, h.nz⟩
theorem SetAt.cn {b b' : Nat} {T : List En} (s : SetAt w b b' T) (hb : Blk w cb 136 (cnH f A n c sb)) (hc : Ch [cb] w w') : SetAt w' b b' T :=
  ⟨s.hd.ch hc (by have := s.hd.ne_ hb (by decide); simpa using this), s.ut.ch hc (by have := s.ut.ne_blk hb; simpa using this)⟩
end
/-- a link in memory is one in words -/
structure LmAt (w : World) (x : Lm) (y : Bk × List En) : Prop where
  bk : x.b.bk = y.1
  mem : x.b.mem w
  set : SetAt w x.sb x.mb y.2
theorem LmAt.bel {w w' : World} {x : Lm} {y : Bk × List En} (h : LmAt w x y) (hb : Below w.heap.size w w') : LmAt w' x y := ⟨h.bk, h.mem.bel hb, h.set.bel hb⟩
/-- a chain's places -/
structure CnM where
  A : Option Addr
  c : Nat
  L : List Lm
  sb : Nat
  b : Nat
structure CnAt (w : World) (cb : Nat) (m : CnM) (s : Cn) : Prop where
  hd : Blk w cb 136 (cnH s.first m.A m.L.length m.c m.sb)
  sl : Sl w w.heap.size 4 Lm.cl m.A m.L
  nz : m.A = none → m.c = 0
  cap : m.L.length ≤ m.c
  set : SetAt w m.sb m.b s.T
  len : m.L.length = s.ls.length
  at_ : ∀ (i : Nat) (x : Lm) (y : Bk × List En), m.L[i]? = some x → s.ls[i]? = some y → LmAt w x y
theorem CnAt.bel {w w' : World} {cb : Nat} {m : CnM} {s : Cn} (h : CnAt w cb m s) (hb : Below w.heap.size w w') : CnAt w' cb m s :=
  ⟨h.hd.bel hb, (h.sl.below hb).more hb.size, h.nz, h.cap, h.set.bel hb, h.len, fun i x y hx hy => (h.at_ i x y hx hy).bel hb⟩
theorem CnAt.far {w w' : World} {cb : Nat} {m : CnM} {s : Cn} (h : CnAt w cb m s) (hc : Ch [cb] w w') : Sl w' w'.heap.size 4 Lm.cl m.A m.L ∧ SetAt w' m.sb m.b s.T ∧ ∀ (i : Nat) (x : Lm) (y : Bk × List En), m.L[i]? = some x → s.ls[i]? = some y → LmAt w' x y :=
  ⟨(h.sl.chH h.hd (cnH_lm _ _ _ _ _) hc (Nat.le_refl _)).more hc.size, h.set.cn h.hd hc, fun i x y hx hy => by
    obtain ⟨h1, h2, h3⟩ := h.at_ i x y hx hy
    exact ⟨h1, h2.cn h.hd hc, h3.cn h.hd hc⟩⟩
/-- a block laid behind -/
theorem CnAt.push {w w' : World} {cb : Nat} {m : CnM} {s : Cn} (h : CnAt w cb m s) (hc : Ch [cb] w w') {A : Option Addr} {c sb b : Nat} {x : Lm} {T : List En} {k : Bk}
    (hd : Blk w' cb 136 (cnH s.first A (m.L.length + 1) c sb)) (hs : Sl w w.heap.size 4 Lm.cl A (m.L ++ [x])) (hA : A ≠ none) (hcap : m.L.length + 1 ≤ c) (hx : LmAt w x (k, s.T)) (hq : SetAt w sb b T) : CnAt w' cb ⟨A, c, m.L ++ [x], sb, b⟩ ⟨s.first, s.ls ++ [(k, s.T)], T⟩ := by
  obtain ⟨_, _, h3⟩ := h.far hc
  refine ⟨by rw [show (m.L ++ [x]).length = m.L.length + 1 by simp]; exact hd, (hs.chH h.hd (cnH_lm _ _ _ _ _) hc (Nat.le_refl _)).more hc.size, fun e => absurd e hA, by rw [List.length_append, List.length_singleton]; exact hcap, hq.cn h.hd hc, by simp [h.len], fun i y z hy hz => ?_⟩
  have hy' : (m.L ++ [x])[i]? = some y := hy
  have hz' : (s.ls ++ [(k, s.T)])[i]? = some z := hz
  by_cases hi : i < m.L.length
  · rw [List.getElem?_append_left hi] at hy'
    rw [List.getElem?_append_left (by rw [← h.len]; exact hi)] at hz'
    exact h3 i y z hy' hz'
  · have hle : i < m.L.length + 1 := by have := (List.getElem?_eq_some_iff.1 hy').1; simpa using this
    obtain rfl : i = m.L.length := by omega
    have e1 : (m.L ++ [x])[m.L.length]? = some x := by simp
    have e2 : (s.ls ++ [(k, s.T)])[m.L.length]? = some (k, s.T) := by rw [h.len]; simp
    have e3 : x = y := Option.some.inj (e1.symm.trans hy')
    have e4 : (k, s.T) = z := Option.some.inj (e2.symm.trans hz')
    subst e3 e4
    exact ⟨hx.bk, hx.mem.cn h.hd hc, hx.set.cn h.hd hc⟩
/-- the last block taken away -/
theorem CnAt.pop {w w' : World} {cb : Nat} {m : CnM} {s : Cn} {x : Lm} {L : List Lm} {k : Bk} {T : List En} {ls : List (Bk × List En)} (h : CnAt w cb m s) (hc : Ch [cb] w w') (hL : m.L = L ++ [x]) (hl : s.ls = ls ++ [(k, T)])
    (hd : Blk w' cb 136 (cnH s.first m.A L.length m.c x.sb)) : CnAt w' cb ⟨m.A, m.c, L, x.sb, x.mb⟩ ⟨s.first, ls, T⟩ := by
  obtain ⟨h1, _, h3⟩ := h.far hc
  have hlen : L.length = ls.length := by have := h.len; rw [hL, hl] at this; simpa using this
  have hlast : LmAt w' x (k, T) := h3 L.length x (k, T) (by rw [hL]; simp) (by rw [hl, hlen]; simp)
  refine ⟨hd, fun hn => ?_, h.nz, by have := h.cap; rw [hL] at this; simp at this; show L.length ≤ m.c; omega, hlast.set, hlen, fun i y z hy hz => ?_⟩
  · obtain ⟨b, off, e, hlt, hcell⟩ := h1 (by rw [hL]; simp)
    exact ⟨b, off, e, hlt, fun i y hy => hcell i y (by rw [hL]; exact (List.getElem?_append_left ((List.getElem?_eq_some_iff.1 hy).1)).trans hy)⟩
  · exact h3 i y z (by rw [hL]; exact (List.getElem?_append_left ((List.getElem?_eq_some_iff.1 hy).1)).trans hy) (by rw [hl]; exact (List.getElem?_append_left ((List.getElem?_eq_some_iff.1 hz).1)).trans hz)
/-- the last link -/
theorem CnAt.last {w : World} {cb : Nat} {m : CnM} {s : Cn} (h : CnAt w cb m s) {i : Nat} (hi : i < m.L.length) : ∃ y, s.ls[i]? = some y ∧ LmAt w (m.L[i]) y := by
  have hi' : i < s.ls.length := by rw [← h.len]; exact hi
  exact ⟨s.ls[i], List.getElem?_eq_getElem hi', h.at_ i _ _ (List.getElem?_eq_getElem hi) (List.getElem?_eq_getElem hi')⟩
end Go.Proofs.YtjcinncphffgaaaGreat
namespace Go.Proofs.YtjcinncphffgaaaGreat
open Go.ChangeShapes Go.WideShapes Go.ChangeAt Go.RowKit Go.Deep
theorem TxCame.bel {w w' : World} {t : Txn} (h : TxCame w t) (hb : Below w.heap.size w w') : TxCame w' t := ⟨h.mem.bel hb, ⟨h.pf.am, (h.pf.wins.below hb).more hb.size, h.pf.fz, h.pf.len⟩, h.out, h.n1, h.n2⟩
/-- a block that came in -/
structure BkCame (w : World) (b : Bm) : Prop where
  sl : Sl w w.heap.size 6 Txn.cl b.A b.txs
  txs : ∀ t ∈ b.txs, TxCame w t
  len : b.txs.length ≤ maxLen
theorem BkCame.bel {w w' : World} {b : Bm} (h : BkCame w b) (hb : Below w.heap.size w w') : BkCame w' b := ⟨(h.sl.below hb).more hb.size, fun t ht => (h.txs t ht).bel hb, h.len⟩
section
variable {H : Type} {enc : TypeId × Value → H} {w : World} {base : Nat} {sp : Nat → Bool} {held : Bool}
theorem cel_Bk : Tryz.prog.cellsOf 37 = 3 := by kernel_rfl
theorem cel_Txs : Tryz.prog.cellsOf 32 = 1 := by kernel_rfl
theorem tr_Bk {cs : List Value} (h : TR enc w base sp held 37 cs) : ∃ b : Bm, cs = b.cl ∧ BkCame w b := by
  have f0 := tr_field h Tryz.underlying37 0 _ rfl 0 1 3 rfl rfl cel_int
  have f1 := tr_field h Tryz.underlying37 1 _ rfl 1 1 9 rfl rfl cel_string
  have f2 := tr_field h Tryz.underlying37 2 _ rfl 2 1 32 rfl rfl cel_Txs
  have hl := tr_len h Tryz.underlying37 3 cel_Bk
  obtain ⟨x0, e0, b0⟩ := tr_int f0
  obtain ⟨x1, e1, b1⟩ := tr_string f1
  obtain ⟨A2, x2, c2, e2, s2, q2, l2⟩ := tr_slice (en := Txn.cl) (Q := TxCame w) Tryz.underlying32 cel_Tx (fun _ => rfl) (by omega) (fun cs h => tr_Tx h) f2
  have hc : cs = (cs.drop 0).take 1 ++ ((cs.drop 1).take 1 ++ ((cs.drop 2).take 1)) := by
    have e := List.drop_zero (l := cs)
    rw [dt cs 0 1, dt cs 1 1, dt cs 2 1, dt_end hl, List.append_nil] at e
    exact e.symm
  rw [e0, e1, e2] at hc
  exact ⟨⟨x0, x1, A2, x2, c2⟩, hc, s2, q2, l2⟩
end
end Go.Proofs.YtjcinncphffgaaaGreat
