/- chain: Deep and Spent, of any chain. -/
import Derived.Outline
import Derived.Test.YtjcinncphffgaaaGreatMjDpC
set_option linter.unusedVariables false
set_option linter.unusedSimpArgs false
namespace Go.Proofs.YtjcinncphffgaaaGreat
open Go.RowKit Go.Maps
/-- a transaction of the chain lies in memory -/
theorem CnAt.tx {w : World} {cb : Nat} {m : CnM} {s : Cn} (h : CnAt w cb m s) {x : Lm} (hx : x ∈ m.L) {t : Txn} (ht : t ∈ x.b.txs) : t.mem w := by
  obtain ⟨i, hi, rfl⟩ := List.getElem_of_mem hx
  obtain ⟨y, _, hl⟩ := h.last hi
  exact (hl.mem.txs t ht).1
/-- as deep as blocks stand from the last one on that has it -/
def DeepR (q : Txn → Bool) (m : CnM) (n : Int) : Prop := ∀ (k : Nat) x, m.L[k]? = some x → (∃ t ∈ x.b.txs, q t = true) → 1 ≤ n ∧ n ≤ (m.L.length : Int) - k
set_option maxRecDepth 100000 in
set_option maxHeartbeats 2000000 in
theorem cdeep_any (id : ByteArray) (cb : Nat) (m : CnM) (s : Cn) (w : World) (hC : CnAt w cb m s) (hl : m.L.length ≤ 1000) (htx : ∀ x ∈ m.L, x.b.txs.length ≤ 1000) (hok : ∀ x ∈ m.L, ∀ t ∈ x.b.txs, TxOk t) :
    Calls Tryz.prog 16 #[.pointer (some ⟨cb, 0, none⟩), .string id] w fun e w' => ∃ n, e = .returned (.int .i64 n) ∧ DeepR (fun t => decide (idT t = id)) m n ∧ Below w.heap.size w w' := by
  have hmf : ∀ (fn : Fn) (first cap : Array Value) (w : World), (Instr.makeFunc fn first cap).run Tryz.prog w = .ok (.func fn first cap) w := fun _ _ _ _ => rfl
  have HB : Hid (Below w.heap.size w (w.alloc (.cells #[.string id] 9))) := Lib.hid ((Below.refl _ _).alloc (Nat.le_refl _) _)
  have HP : Blk (w.alloc (.cells #[.string id] 9)) w.heap.size 9 #[.string id] := Blk.new _ _ _
  have HL := Lib.hid (clast_deep (fun t => decide (idT t = id)) w.heap.size cb m s _ (hC.bel HB.out) hl htx hok (fun W hW x hx t ht => deep1_any w.heap.size id t W (HP.bel hW) ((hC.tx hx ht).bel (HB.out.trans (hW.mono HB.out.size))) (hok x hx t ht)))
  clear hC hl htx hok HP
  go_enter Tryz.func16, Tryz.ntmps16
  go_wp2_with fail
  refine HL.out.mono ?_
  rintro e W ⟨u, n, rfl, hd, hb⟩
  have HD := Lib.hid hd
  have HBW : Hid (Below w.heap.size w W) := Lib.hid (HB.out.trans (hb.mono HB.out.size))
  clear hb HL hd
  go_wp2_with (refine wpList_store_part rfl 53 (.tmp 5) (.tmp 11) rfl W.heap.size 0 (cs := zTxK) (Blk.new _ _ _) u.cs u.cs (by rfl) (by rfl) (Nat.le_refl 6) infoTx (txncs_one u) (txn_over u rfl) ?_; intro W6 hb6 hc6; have HBX := Lib.hid (bel_st' hc6); clear hb6 hc6)
  go_ret
  exact ⟨n, rfl, HD.out, HBW.out.trans (HBX.out.mono HBW.out.size)⟩
set_option maxRecDepth 100000 in
set_option maxHeartbeats 2000000 in
theorem cspent_any (tx : ByteArray) (out : Int) (cb : Nat) (m : CnM) (s : Cn) (w : World) (hC : CnAt w cb m s) (hl : m.L.length ≤ 1000) (htx : ∀ x ∈ m.L, x.b.txs.length ≤ 1000) (hok : ∀ x ∈ m.L, ∀ t ∈ x.b.txs, TxOk t) :
    Calls Tryz.prog 18 #[.pointer (some ⟨cb, 0, none⟩), .agg #[.string tx, .int .i64 out]] w fun e w' => ∃ (u : Txn) (n : Int), e = .returned (.tuple #[.agg u.cs, .int .i64 n]) ∧ DeepR (fun t => t.ins.any (spendsB tx out)) m n ∧ Below w.heap.size w w' := by
  have hmf : ∀ (fn : Fn) (first cap : Array Value) (w : World), (Instr.makeFunc fn first cap).run Tryz.prog w = .ok (.func fn first cap) w := fun _ _ _ _ => rfl
  have HC := Lib.hid hC
  have HOK := Lib.hid (And.intro hl (And.intro htx hok))
  clear hC hl htx hok
  go_enter Tryz.func18, Tryz.ntmps18
  go_upto_region 1 with fail
  refine wp_gen fun V0 hV0 => ?_
  have HB : Hid (Below w.heap.size w V0) := Lib.hid (by rw [hV0]; exact ((Below.refl _ _).alloc (Nat.le_refl _) _).alloc (by simp) _)
  have HP : Hid (Blk V0 w.heap.size 57 #[.string tx, .int .i64 out]) := Lib.hid (by rw [hV0]; exact (Blk.new _ _ _).alloc _)
  have HR : Hid (Blk V0 (w.heap.size + 1) 53 zTxK) := Lib.hid (by rw [hV0]; exact Blk.newAt (by simp))
  have HL := Lib.hid (clast_spent (fun t => t.ins.any (spendsB tx out)) w.heap.size cb m s V0 (HC.out.bel HB.out) HOK.out.1 HOK.out.2.1 HOK.out.2.2 (fun W hW x hx t ht => spent1_any w.heap.size tx out t W (HP.out.bel hW) ((HC.out.tx hx ht).bel (HB.out.trans (hW.mono HB.out.size))) (HOK.out.2.2 x hx t ht)))
  clear hV0 HP
  go_wp2_with fail
  refine HL.out.mono ?_
  rintro e W ⟨u, n, rfl, hd, hb⟩
  have HD := Lib.hid hd
  replace HR := Lib.hid (HR.out.bel hb)
  replace HB := Lib.hid (HB.out.trans (hb.mono HB.out.size))
  clear hb HL hd
  go_wp2_with (refine wpList_store_part rfl 53 (.tmp 4) (.tmp 9) rfl (w.heap.size + 1) 0 HR.out u.cs u.cs (by rfl) (by rfl) (Nat.le_refl 6) infoTx (txncs_one u) (txn_over u rfl) ?_; intro W6 hb6 hc6; have HT6 := Lib.hid hb6; have HC6 := Lib.hid hc6; clear hb6 hc6)
  exact bodyPost_ret (results_cell_row2 rfl _ HT6.out rfl Tryz.underlying53 infoTx) rfl ⟨u, n, rfl, HD.out, HB.out.trans (HC6.out.below HB.out.size (by simp))⟩
end Go.Proofs.YtjcinncphffgaaaGreat
