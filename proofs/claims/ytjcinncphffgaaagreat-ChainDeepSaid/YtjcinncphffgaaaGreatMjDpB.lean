/- chain: slices.Backward of links, of transactions, where a round may stop it. -/
import Derived.RangeFuncWrites
import Derived.RangeFuncBox
import Derived.RangeFuncNested
import Derived.RangeFuncLeaves
import Derived.OwnWalkIn
import Derived.TacticsInMore
import Derived.LoopNIn
import Derived.LoopIn
import Derived.Test.YtjcinncphffgaaaGreatMjDpA
import Derived.Test.YtjcinncphffgaaaGreatMjK11
set_option linter.unusedVariables false
set_option linter.unusedSimpArgs false
namespace Go.Proofs.YtjcinncphffgaaaGreat
open Go.RowKit Go.Maps Go.Sort Go.Shelf
/-- a list with its places, from its end on -/
def revI {α : Type} (l : List α) : List (Nat × α) := (l.mapIdx fun i x => (i, x)).reverse
theorem revI_len {α : Type} (l : List α) : (revI l).length = l.length := by simp [revI]
theorem revI_at {α : Type} (l : List α) (j k : Nat) (h : j + k + 1 = l.length) : (revI l)[j]? = some (k, l[k]'(by omega)) := by
  unfold revI
  rw [List.getElem?_reverse (by simp; omega), List.length_mapIdx, List.getElem?_mapIdx, show l.length - 1 - j = k by omega, List.getElem?_eq_getElem (by omega)]
  rfl
theorem revI_take {α : Type} (l : List α) (j k : Nat) (h : j + k + 1 = l.length) : (revI l).take (j + 1) = (revI l).take j ++ [(k, l[k]'(by omega))] := by
  have hj : j < (revI l).length := by rw [revI_len]; omega
  rw [List.take_succ_eq_append_getElem hj]
  have := revI_at l j k h
  rw [List.getElem?_eq_getElem hj] at this
  rw [Option.some.inj this]
/-- an item of a list, with its place -/
abbrev It {α : Type} (l : List α) := { p : Nat × α // l[p.1]? = some p.2 }
section
attribute [local go_sem] Oper.semAt_some
set_option maxRecDepth 100000 in
set_option maxHeartbeats 2000000 in
theorem backward_tx (n Bn : Nat) (hn : 1 ≤ n) (A : Option Addr) (l : List Txn) (c : Nat) (w : World) (hb : Blk w Bn 32 #[.slice A l.length c]) (hS : Sl w w.heap.size 6 Txn.cl A l) (hl : l.length ≤ 1000000) :
    SeqStopsK Fence.wide n Tryz.prog 181 #[.pointer (some ⟨Bn, 0, none⟩)] (fun x : It l => #[.int .i64 (x.val.1 : Int), .agg x.val.2.cs]) (Below w.heap.size) (fun xs => xs.map Subtype.val = revI l) (fun pre => pre.map Subtype.val <+: revI l) l.length w := fun lp J Jx W hW hJ hJx hY h0 => by
  have HS := Lib.hid hS
  have HBN := Lib.hid hb
  have HW := Lib.hid hW
  have HY := Lib.hid hY
  have H0 := Lib.hid h0
  have c0 : W.cell? ⟨Bn, 0, none⟩ = some (.slice A l.length c) := (hb.bel hW).cell 0
  have e1 : wrap64 ((l.length : Int) - 1) = (l.length : Int) - 1 := IntWalk.wrap64_in _ ⟨by omega, by omega⟩
  clear hJ hJx hY h0 hb hW hS
  refine callsIn_of_wp Tryz.func181 rfl trivial ?_ rfl
  simp only [Tryz.ntmps181, List.size_toArray, List.length_cons, List.length_nil, Nat.reduceAdd, Nat.reduceSub, Array.replicate_succ, Array.replicate_zero, List.push_toArray, List.append_toArray, List.nil_append, List.cons_append]
  gi_wp2
  gi_loopw [3] (fun i wr => ∃ j k : Nat, j + k = l.length ∧ i = .int .i64 ((k : Int) - 1) ∧ Hid (Below w.heap.size w wr) ∧ ∃ pre : List (It l), Hid (pre.map Subtype.val = (revI l).take j) ∧ Hid (J pre wr)) (fun i _ => (intOf i + 1).toNat)
  case atStart => exact ⟨0, l.length, by omega, rfl, HW, [], Lib.hid rfl, H0⟩
  case round =>
    clear HW H0 c0
    obtain ⟨j, k, hjk, rfl, HW, pre, HP, HJ⟩ := hrel
    have c0 : wr.cell? ⟨Bn, 0, none⟩ = some (.slice A l.length c) := (HBN.out.bel HW.out).cell 0
    cases k with
    | zero =>
      have d1 : decide ((0 : Int) - 1 ≥ 0) = false := rfl
      have d2 : decide ((0 : Int) ≤ -1) = false := rfl
      have HT : Hid ((revI l).take j = revI l) := Lib.hid (List.take_of_length_le (by rw [revI_len]; omega))
      gi_wp2_with fail
      go_end0
      exact ⟨⟨_, rfl⟩, .inl ⟨pre, HP.out.trans HT.out, HJ.out⟩⟩
    | succ k =>
      rw [show (((k + 1 : Nat) : Int) - 1) = (k : Int) by omega]
      have d1 : decide ((k : Int) ≥ 0) = true := decide_eq_true (by omega)
      have d2 : decide ((0 : Int) ≤ (k : Int)) = true := decide_eq_true (by omega)
      have hk : k < l.length := by omega
      have hk2 : (k : Int) < (l.length : Int) := by omega
      obtain ⟨ab, off, hA, hab, hc⟩ := (HS.out.below HW.out).at_ hk
      subst hA
      have hk? : l[k]? = some l[k] := List.getElem?_eq_getElem hk
      have HT : Hid ((revI l).take (j + 1) = (revI l).take j ++ [(k, l[k])]) := Lib.hid (revI_take l j k (by omega))
      have HPL : Hid (pre.length < l.length) := Lib.hid (by have := congrArg List.length HP.out; rw [List.length_map, List.length_take, revI_len] at this; omega)
      generalize l[k] = y at hc HT hk?
      have HYJ := Lib.hid (HY.out _ ⟨(k, y), hk?⟩ wr HJ.out HPL.out)
      have HP2 : Hid ((pre ++ [(⟨(k, y), hk?⟩ : It l)]).map Subtype.val = (revI l).take (j + 1)) := Lib.hid (by rw [List.map_append, HP.out, HT.out]; rfl)
      have t0 : wr.cell? ⟨ab, off + k * 6, none⟩ = some (.slice y.A y.ins.length y.c) := hc 0 _ rfl
      have t1 : wr.cell? ⟨ab, off + k * 6 + 1, none⟩ = some (.slice y.B y.outs.length y.d) := hc 1 _ rfl
      have t2 : wr.cell? ⟨ab, off + k * 6 + 2, none⟩ = some (.int .u64 (y.p.am : Nat)) := hc 2 _ rfl
      have t3 : wr.cell? ⟨ab, off + k * 6 + 3, none⟩ = some (.string y.p.sig) := hc 3 _ rfl
      have t4 : wr.cell? ⟨ab, off + k * 6 + 4, none⟩ = some (.string y.p.tok) := hc 4 _ rfl
      have t5 : wr.cell? ⟨ab, off + k * 6 + 5, none⟩ = some (.slice y.p.A y.p.l.length y.p.c) := hc 5 _ rfl
      clear hc HJ
      obtain ⟨fn, tmps, assign, body, hy, hR⟩ := HYJ.out
      have hy2 : Sem.run Tryz.prog (Instr.yield lp #[.int .i64 (k : Int), .agg #[.slice y.A y.ins.length y.c, .slice y.B y.outs.length y.d, .int .u64 (y.p.am : Nat), .string y.p.sig, .string y.p.tok, .slice y.p.A y.p.l.length y.p.c]]) wr = _ := hy
      clear hy
      gi_wp2_with fail
      refine hR.mono ?_
      rintro e W3 (⟨rfl, hJ3, hk3⟩ | ⟨rfl, hJx3⟩)
      · have HJ3 := Lib.hid hJ3
        have HW3 := Lib.hid (HW.out.trans hk3)
        clear hJ3 hk3 t0 t1 t2 t3 t4 t5
        gi_wp2_with fail
        go_roundw
        case rel => exact ⟨j + 1, k, by omega, by go_num, HW3, _, HP2, HJ3⟩
        case measure => (simp [intOf]; try omega)
      · have HJ3 := Lib.hid hJx3
        clear hJx3
        gi_wp2_with fail
        refine bodyPost_ret (results_none rfl _ _ _) rfl ?_
        exact ⟨⟨_, rfl⟩, .inr ⟨_, by rw [HP2.out]; exact List.take_prefix _ _, HJ3.out⟩⟩
set_option maxRecDepth 100000 in
set_option maxHeartbeats 2000000 in
theorem backward_lm (n Bn : Nat) (hn : 1 ≤ n) (A : Option Addr) (l : List Lm) (c : Nat) (w : World) (hb : Blk w Bn 134 #[.slice A l.length c]) (hS : Sl w w.heap.size 4 Lm.cl A l) (hl : l.length ≤ 1000000) :
    SeqStopsK Fence.wide n Tryz.prog 180 #[.pointer (some ⟨Bn, 0, none⟩)] (fun x : It l => #[.int .i64 (x.val.1 : Int), .agg x.val.2.cs]) (Below w.heap.size) (fun xs => xs.map Subtype.val = revI l) (fun pre => pre.map Subtype.val <+: revI l) l.length w := fun lp J Jx W hW hJ hJx hY h0 => by
  have HS := Lib.hid hS
  have HBN := Lib.hid hb
  have HW := Lib.hid hW
  have HY := Lib.hid hY
  have H0 := Lib.hid h0
  have c0 : W.cell? ⟨Bn, 0, none⟩ = some (.slice A l.length c) := (hb.bel hW).cell 0
  have e1 : wrap64 ((l.length : Int) - 1) = (l.length : Int) - 1 := IntWalk.wrap64_in _ ⟨by omega, by omega⟩
  clear hJ hJx hY h0 hb hW hS
  refine callsIn_of_wp Tryz.func180 rfl trivial ?_ rfl
  simp only [Tryz.ntmps180, List.size_toArray, List.length_cons, List.length_nil, Nat.reduceAdd, Nat.reduceSub, Array.replicate_succ, Array.replicate_zero, List.push_toArray, List.append_toArray, List.nil_append, List.cons_append]
  gi_wp2
  gi_loopw [3] (fun i wr => ∃ j k : Nat, j + k = l.length ∧ i = .int .i64 ((k : Int) - 1) ∧ Hid (Below w.heap.size w wr) ∧ ∃ pre : List (It l), Hid (pre.map Subtype.val = (revI l).take j) ∧ Hid (J pre wr)) (fun i _ => (intOf i + 1).toNat)
  case atStart => exact ⟨0, l.length, by omega, rfl, HW, [], Lib.hid rfl, H0⟩
  case round =>
    clear HW H0 c0
    obtain ⟨j, k, hjk, rfl, HW, pre, HP, HJ⟩ := hrel
    have c0 : wr.cell? ⟨Bn, 0, none⟩ = some (.slice A l.length c) := (HBN.out.bel HW.out).cell 0
    cases k with
    | zero =>
      have d1 : decide ((0 : Int) - 1 ≥ 0) = false := rfl
      have d2 : decide ((0 : Int) ≤ -1) = false := rfl
      have HT : Hid ((revI l).take j = revI l) := Lib.hid (List.take_of_length_le (by rw [revI_len]; omega))
      gi_wp2_with fail
      go_end0
      exact ⟨⟨_, rfl⟩, .inl ⟨pre, HP.out.trans HT.out, HJ.out⟩⟩
    | succ k =>
      rw [show (((k + 1 : Nat) : Int) - 1) = (k : Int) by omega]
      have d1 : decide ((k : Int) ≥ 0) = true := decide_eq_true (by omega)
      have d2 : decide ((0 : Int) ≤ (k : Int)) = true := decide_eq_true (by omega)
      have hk : k < l.length := by omega
      have hk2 : (k : Int) < (l.length : Int) := by omega
      obtain ⟨ab, off, hA, hab, hc⟩ := (HS.out.below HW.out).at_ hk
      subst hA
      have hk? : l[k]? = some l[k] := List.getElem?_eq_getElem hk
      have HT : Hid ((revI l).take (j + 1) = (revI l).take j ++ [(k, l[k])]) := Lib.hid (revI_take l j k (by omega))
      have HPL : Hid (pre.length < l.length) := Lib.hid (by have := congrArg List.length HP.out; rw [List.length_map, List.length_take, revI_len] at this; omega)
      generalize l[k] = y at hc HT hk?
      have HYJ := Lib.hid (HY.out _ ⟨(k, y), hk?⟩ wr HJ.out HPL.out)
      have HP2 : Hid ((pre ++ [(⟨(k, y), hk?⟩ : It l)]).map Subtype.val = (revI l).take (j + 1)) := Lib.hid (by rw [List.map_append, HP.out, HT.out]; rfl)
      have t0 : wr.cell? ⟨ab, off + k * 4, none⟩ = some (.int .i64 y.b.h) := hc 0 _ rfl
      have t1 : wr.cell? ⟨ab, off + k * 4 + 1, none⟩ = some (.string y.b.prev) := hc 1 _ rfl
      have t2 : wr.cell? ⟨ab, off + k * 4 + 2, none⟩ = some (.slice y.b.A y.b.txs.length y.b.c) := hc 2 _ rfl
      have t3 : wr.cell? ⟨ab, off + k * 4 + 3, none⟩ = some (.pointer (some ⟨y.sb, 0, none⟩)) := hc 3 _ rfl
      clear hc HJ
      obtain ⟨fn, tmps, assign, body, hy, hR⟩ := HYJ.out
      have hy2 : Sem.run Tryz.prog (Instr.yield lp #[.int .i64 (k : Int), .agg #[.int .i64 y.b.h, .string y.b.prev, .slice y.b.A y.b.txs.length y.b.c, .pointer (some ⟨y.sb, 0, none⟩)]]) wr = _ := hy
      clear hy
      gi_wp2_with fail
      refine hR.mono ?_
      rintro e W3 (⟨rfl, hJ3, hk3⟩ | ⟨rfl, hJx3⟩)
      · have HJ3 := Lib.hid hJ3
        have HW3 := Lib.hid (HW.out.trans hk3)
        clear hJ3 hk3 t0 t1 t2 t3
        gi_wp2_with fail
        go_roundw
        case rel => exact ⟨j + 1, k, by omega, by go_num, HW3, _, HP2, HJ3⟩
        case measure => (simp [intOf]; try omega)
      · have HJ3 := Lib.hid hJx3
        clear hJx3
        gi_wp2_with fail
        refine bodyPost_ret (results_none rfl _ _ _) rfl ?_
        exact ⟨⟨_, rfl⟩, .inr ⟨_, by rw [HP2.out]; exact List.take_prefix _ _, HJ3.out⟩⟩
end
end Go.Proofs.YtjcinncphffgaaaGreat
