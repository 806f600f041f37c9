/- chain: last, of any chain. -/
import Derived.RangeFuncWrites
import Derived.RangeFuncBox
import Derived.RangeFuncNested
import Derived.RangeFuncLeaves
import Derived.RangeFuncCalls
import Derived.OwnWalkIn
import Derived.TacticsInMore
import Derived.LoopNIn
import Derived.LoopIn
import Derived.Outline
import Derived.Test.YtjcinncphffgaaaGreatMjDpB
import Derived.Test.YtjcinncphffgaaaGreatMjK6
import Derived.Test.YtjcinncphffgaaaGreatMjSdkC
set_option linter.unusedVariables false
set_option linter.unusedSimpArgs false
namespace Go.Proofs.YtjcinncphffgaaaGreat
open Go.RowKit Go.Maps Go.Sort Go.Shelf
section
attribute [local go_sem] Oper.semAt_some
theorem backwardFt_any (A : Option Addr) (k c : Nat) (w : World) : Calls Tryz.prog 140 #[.slice A k c] w fun e w' => e = .returned (.func (.func 181) #[] #[.pointer (some ⟨w.heap.size, 0, none⟩)]) ∧ w.alloc (.cells #[.slice A k c] 32) = w' := by
  have hmf : ∀ (fn : Fn) (first cap : Array Value) (w : World), (Instr.makeFunc fn first cap).run Tryz.prog w = .ok (.func fn first cap) w := fun _ _ _ _ => rfl
  go_enter Tryz.func140, Tryz.ntmps140
  go_wp2_with fail
  go_ret
  exact ⟨rfl, rfl⟩
/-- no transaction of these links is so -/
def NoHit {L : List Lm} (q : Txn → Bool) (pre : List (It L)) : Prop := ∀ y ∈ pre, ∀ t ∈ y.val.2.b.txs, q t = false
/-- the results' cells, where one was found -/
def ExitI (w : World) (n : Int) (W : World) : Prop := ∃ u : Txn, Blk W (w.heap.size + 2) 53 u.cs ∧ Blk W (w.heap.size + 3) 3 #[.int .i64 n] ∧ Below w.heap.size w W
def ExitF (q : Txn → Bool) (w : World) (L : List Lm) (pre : List (It L)) (W : World) : Prop := ∃ (pre0 : List (It L)) (y : It L), pre = pre0 ++ [y] ∧ NoHit q pre0 ∧ ExitI w ((L.length : Int) - (y.val.1 : Int)) W
theorem exitI_own {β : Type} (w : World) (n : Int) (B : Nat) (hB : w.heap.size + 4 ≤ B) : OwnFrom B (fun (_ : β) W => ExitI w n W) := by
  rintro s X Y row ⟨u, h3, h4, h5⟩ hg hr
  exact ⟨u, ownFrom_blk B _ _ (fun (_ : Unit) => u.cs) () X Y row h3 hg hr, ownFrom_blk B _ _ (fun (_ : Unit) => #[.int .i64 n]) () X Y row h4 hg hr, ownFrom_below (β := Unit) (Nat.le_refl _) (by omega) () X Y row h5 hg hr⟩
theorem exitF_own (q : Txn → Bool) (w : World) (L : List Lm) (B : Nat) (hB : w.heap.size + 4 ≤ B) (c : Code) : OwnFrom B (fun (pre : List (It L)) W => c = .ret ∧ ExitF q w L pre W) := by
  rintro s X Y row ⟨hc, pre0, y, h1, h2, h3⟩ hg hr
  exact ⟨hc, pre0, y, h1, h2, exitI_own (β := Unit) w _ B hB () X Y row h3 hg hr⟩
theorem ch_cell {S : List Nat} {W W' : World} (hc : Ch S W W') {p : Addr} (hlt : p.block < W.heap.size) (hn : p.block ∉ S) : W'.cell? p = W.cell? p := by
  have e := hc.block p.block hlt hn
  unfold World.cell?
  rw [e]
theorem keeps_ch {S : List Nat} {B : Nat} {W W' : World} (hc : Ch S W W') (hS : ∀ b ∈ S, b < B) : KeepsFrom B W W' :=
  ⟨hc.size, fun k o hB hk _ => (hc.block k (Array.getElem?_eq_some_iff.1 hk).1 (fun e => by have := hS k e; omega)).trans hk⟩
theorem revI_mem {α : Type} {l : List α} {k : Nat} {x : α} (h : l[k]? = some x) : (k, x) ∈ revI l := by
  unfold revI
  rw [List.mem_reverse, List.mem_mapIdx]
  obtain ⟨hk, e⟩ := List.getElem?_eq_some_iff.1 h
  exact ⟨k, hk, by rw [e]⟩
/-- what was met, if all was met -/
theorem all_met {α : Type} {l : List α} {xs : List (It l)} (h : xs.map Subtype.val = revI l) {k : Nat} {x : α} (hx : l[k]? = some x) : ∃ y ∈ xs, y.val = (k, x) := by
  have := revI_mem hx
  rw [← h] at this
  obtain ⟨y, hy, e⟩ := List.mem_map.1 this
  exact ⟨y, hy, e⟩
/-- what was met ahead of an item: all that stands behind it -/
theorem ahead_met {α : Type} {l : List α} {pre0 : List (It l)} {y : It l} (h : (pre0 ++ [y]).map Subtype.val <+: revI l) {k : Nat} {x : α} (hx : l[k]? = some x) (hk : y.val.1 < k) : ∃ z ∈ pre0, z.val = (k, x) := by
  obtain ⟨t, ht⟩ := h
  rw [List.map_append] at ht
  obtain ⟨hkl, he⟩ := List.getElem?_eq_some_iff.1 hx
  have hy : y.val.1 < l.length := (List.getElem?_eq_some_iff.1 y.property).1
  have hat : ∀ j, j < l.length → ∃ v, (revI l)[j]? = some (l.length - 1 - j, v) := fun j hj => ⟨_, revI_at l j (l.length - 1 - j) (by omega)⟩
  have hlen := congrArg List.length ht
  simp only [List.length_append, List.length_map, List.length_singleton, revI_len] at hlen
  have h1 : (revI l)[pre0.length]? = some y.val := by
    rw [← ht]
    rw [List.getElem?_append_left (by simp), List.getElem?_append_right (by simp)]
    simp
  obtain ⟨v, h2⟩ := hat pre0.length (by omega)
  rw [h1] at h2
  have h3 : y.val.1 = l.length - 1 - pre0.length := congrArg Prod.fst (Option.some.inj h2)
  have h4 : (revI l)[l.length - 1 - k]? = some (k, x) := by
    have := revI_at l (l.length - 1 - k) k (by omega)
    rw [he] at this
    exact this
  rw [← ht, List.append_assoc, List.getElem?_append_left (by simp; omega), List.getElem?_map] at h4
  cases hz : pre0[l.length - 1 - k]? with
  | none => rw [hz] at h4; cases h4
  | some z =>
    rw [hz] at h4
    exact ⟨z, List.mem_of_getElem? hz, Option.some.inj h4⟩
set_option maxRecDepth 100000 in
set_option maxHeartbeats 4000000 in
theorem clast_deep (q : Txn → Bool) (px : Nat) (cb : Nat) (m : CnM) (s : Cn) (w : World) (hC : CnAt w cb m s) (hl : m.L.length ≤ 1000) (htx : ∀ x ∈ m.L, x.b.txs.length ≤ 1000) (hok : ∀ x ∈ m.L, ∀ t ∈ x.b.txs, TxOk t)
    (HF : ∀ W, Below w.heap.size w W → ∀ x ∈ m.L, ∀ t ∈ x.b.txs, Calls Tryz.prog 69 (#[.agg t.cs] ++ #[.pointer (some ⟨px, 0, none⟩)]) W fun e w' => e = .returned (.bool (q t)) ∧ Below W.heap.size W w') :
    Calls Tryz.prog 68 #[.pointer (some ⟨cb, 0, none⟩), .func (Fn.func 69) #[] #[.pointer (some ⟨px, 0, none⟩)]] w fun e w' => ∃ (u : Txn) (n : Int), e = .returned (.tuple #[.agg u.cs, .int .i64 n]) ∧ (∀ (k : Nat) x, m.L[k]? = some x → (∃ t ∈ x.b.txs, q t = true) → 1 ≤ n ∧ n ≤ (m.L.length : Int) - k) ∧ Below w.heap.size w w' := by
  have HC := Lib.hid hC
  have HFF := Lib.hid HF
  have HTL := Lib.hid htx
  have HTX := Lib.hid hok
  have HCB := Lib.hid hC.hd.lt
  have h1 : w.cell? ⟨cb, 1, none⟩ = some (.slice m.A m.L.length m.c) := hC.hd.cell 1
  have hcb := hC.hd.lt
  have q1 : ∀ o1 o2 o3 o4, ((((w.alloc o1).alloc o2).alloc o3).alloc o4).cell? ⟨cb, 1, none⟩ = some (.slice m.A m.L.length m.c) := fun o1 o2 o3 o4 => by
    rw [World.cell?_alloc_lt _ _ _ (by simp; omega), World.cell?_alloc_lt _ _ _ (by simp; omega), World.cell?_alloc_lt _ _ _ (by simp; omega), World.cell?_alloc_lt _ _ _ hcb, h1]
  clear hC HF htx hok
  refine (callsIn_wide (n := 9)).1 ?_
  refine callsIn_of_wp_marks Tryz.func68 rfl trivial ?_ rfl
  simp only [Tryz.ntmps68, List.size_toArray, List.length_cons, List.length_nil, Nat.reduceAdd, Nat.reduceSub, Array.replicate_succ, Array.replicate_zero, List.push_toArray, List.append_toArray, List.nil_append, List.cons_append]
  gi_wp2_with fail
  refine ⟨trivial, ?_⟩
  refine (callsIn_wide.2 (backwardF_any m.A m.L.length m.c _)).mono ?_
  rintro e w1 ⟨rfl, rfl⟩
  gi_wp2_with fail
  refine wpIn_gen fun W0 hW0 => ?_
  have hz0 : W0.heap.size = w.heap.size + 5 := by rw [hW0]; simp
  have hT0 : Blk W0 (w.heap.size + 2) 53 zTxK := by rw [hW0]; exact ((Blk.newAt (by simp)).alloc _).alloc _
  have hI0 : Blk W0 (w.heap.size + 3) 3 #[.int .i64 0] := by rw [hW0]; exact (Blk.newAt (by simp)).alloc _
  have hN0 : Blk W0 (w.heap.size + 4) 134 #[.slice m.A m.L.length m.c] := by rw [hW0]; exact Blk.newAt (by simp)
  have hB0 : Below w.heap.size w W0 := by rw [hW0]; exact (((((Below.refl _ _).alloc (Nat.le_refl _) _).alloc (by simp) _).alloc (by simp; omega) _).alloc (by simp; omega) _).alloc (by simp; omega) _
  have hP0 : W0.cell? ⟨w.heap.size, 0, none⟩ = some (.pointer (some ⟨cb, 0, none⟩)) := by
    rw [hW0]; exact Blk.cell ((((((Blk.new w _ _).alloc _).alloc _).alloc _).alloc _)) 0
  have hP1 : W0.cell? ⟨w.heap.size + 1, 0, none⟩ = some (.func (Fn.func 69) #[] #[.pointer (some ⟨px, 0, none⟩)]) := by
    rw [hW0]; exact Blk.cell (((((Blk.newAt (by simp) : Blk _ (w.heap.size + 1) _ _).alloc _).alloc _).alloc _)) 0
  have HZ0 := Lib.hid hz0
  clear hW0 q1 hz0
  refine wpIn_rangeFunc_ownH rfl (by decide) (gf := 180) (lb := #[.pointer (some ⟨w.heap.size + 4, 0, none⟩)]) rfl trivial (enters_of Tryz.func180 (by kernel_rfl) rfl)
    (backward_lm 8 (w.heap.size + 4) (by decide) m.A m.L m.c W0 hN0 (HC.out.bel hB0).sl (by omega)) belowK_t (belowK_b (Nat.le_refl _)) (Below.refl _ _) (fun _ => rfl)
    (fun (pre : List (It m.L)) W => Below W0.heap.size W0 W ∧ NoHit q pre) (fun c (pre : List (It m.L)) W => c = .ret ∧ ExitF q w m.L pre W)
    (OwnFrom.and (ownFrom_below (Nat.le_refl _) (Nat.le_refl _)) (ownFrom_pure _ _)) (fun c => exitF_own q w m.L _ (by have := HZ0.out; omega) c) ⟨Below.refl _ _, fun y hy => by cases hy⟩
    (fun (x : It m.L) a' W => ∃ B6 B7, W0.heap.size ≤ B6 ∧ W0.heap.size ≤ B7 ∧ Blk W B6 3 #[.int .i64 (x.val.1 : Int)] ∧ Blk W B7 152 x.val.2.cs ∧ a' = { tmps := #[.pointer (some ⟨cb, 0, none⟩), .func (Fn.func 69) #[] #[.pointer (some ⟨px, 0, none⟩)], .pointer (some ⟨w.heap.size, 0, none⟩), .pointer (some ⟨w.heap.size + 1, 0, none⟩), .pointer (some ⟨w.heap.size + 1 + 1, 0, none⟩), .pointer (some ⟨w.heap.size + 1 + 1 + 1, 0, none⟩), .pointer (some ⟨B6, 0, none⟩), .pointer (some ⟨B7, 0, none⟩), undef, undef, .pointer (some ⟨cb, 0, none⟩), .pointer (some ⟨cb, 0, none⟩), .pointer (some ⟨cb, 1, none⟩), .slice m.A m.L.length m.c, .func (Fn.func 180) #[] #[.pointer (some ⟨w.heap.size + 1 + 1 + 1 + 1, 0, none⟩)], .int .i64 (x.val.1 : Int), .agg x.val.2.cs, undef, undef, undef, undef, undef, undef, undef, undef, undef, undef, undef, undef, undef, undef, undef, undef, undef, undef, undef], defers := [] })
    (fun x a' _ X Y row hs hg hr => by
      obtain ⟨B6, B7, h6, h7, h8, h9, h10⟩ := hs
      exact ⟨B6, B7, h6, h7, ownFrom_blk _ B6 _ (fun (_ : Unit) => _) () X Y row h8 hg hr, ownFrom_blk _ B7 _ (fun (_ : Unit) => _) () X Y row h9 hg hr, h10⟩) ?assign ?body ?done ?stop
  case assign =>
    rintro l pre ⟨⟨i, ⟨⟨bh, bp, bA, bt, bc⟩, bs, bm⟩⟩, hix⟩ W K ⟨hB, hN⟩ hK
    dsimp only [Lm.cs]
    gi_wp2_with fail
    have hb2 : Below W.heap.size W ((W.alloc (.cells #[.int .i64 (i : Int)] 3)).alloc (.cells (Lm.mk ⟨bh, bp, bA, bt, bc⟩ bs bm).cs 152)) := ((Below.refl _ _).alloc (Nat.le_refl _) _).alloc (by simp) _
    exact hK _ _ (keeps_below hb2) (hb2.mono hB.size) ⟨hB.trans (hb2.mono hB.size), hN⟩ ⟨W.heap.size, W.heap.size + 1, hB.size, Nat.le_succ_of_le hB.size, (Blk.new _ _ _).alloc _, Blk.newAt (by simp), rfl⟩
  case body =>
    rintro l pre ⟨⟨i, x⟩, hix⟩ a' W hlw ⟨r, hr⟩ ⟨hB, hN⟩ ⟨B6, B7, h6, h7, b6, b7, rfl⟩ hlt
    have c2 : W.cell? ⟨B7, 2, none⟩ = some (.slice x.b.A x.b.txs.length x.b.c) := b7.cell 2
    gi_wp2_with fail
    refine ⟨trivial, ?_⟩
    refine (CallsIn.inRound l (callsIn_wide.2 (backwardFt_any x.b.A x.b.txs.length x.b.c _))).mono ?_
    rintro e w1 ⟨rfl, rfl⟩
    gi_wp2_with fail
    refine wpIn_gen fun W1 hW1 => ?_
    have hb1 : Below W.heap.size W W1 := by rw [hW1]; exact (Below.refl _ _).alloc (Nat.le_refl _) _
    have hN1 : Blk W1 W.heap.size 32 #[.slice x.b.A x.b.txs.length x.b.c] := by rw [hW1]; exact Blk.new _ _ _
    have hr1 : W1.heap[l]? = some (.loop r) := (hb1.block l (Array.getElem?_eq_some_iff.1 hr).1).trans hr
    clear hW1
    have hB01 : Below W0.heap.size W0 W1 := hB.trans (hb1.mono hB.size)
    have hxm : x ∈ m.L := List.mem_of_getElem? hix
    obtain ⟨yw, _, hlm⟩ := HC.out.last (List.getElem?_eq_some_iff.1 hix).1
    rw [(List.getElem?_eq_some_iff.1 hix).2] at hlm
    have hwW1 : Below w.heap.size w W1 := hB0.trans (hB01.mono hB0.size)
    have hbm := hlm.mem.bel hwW1
    have htl : x.b.txs.length ≤ 1000 := HTL.out x hxm
    refine wpIn_rangeFunc_ownN (l₀ := l) (r₀ := r) rfl hr1 (by decide) (gf := 181) (lb := #[.pointer (some ⟨W.heap.size, 0, none⟩)]) rfl trivial (enters_of Tryz.func181 (by kernel_rfl) rfl)
      ((backward_tx _ W.heap.size (by decide) x.b.A x.b.txs x.b.c W1 hN1 hbm.sl (by omega)).inRound l) belowK_t (belowK_b (Nat.le_refl _)) (Below.refl _ _) (fun _ => rfl)
      (fun (pre2 : List (It x.b.txs)) W2 => Below W1.heap.size W1 W2 ∧ ∀ y ∈ pre2, q y.val.2 = false) (fun c (_ : List (It x.b.txs)) W2 => (c = .ret ∧ ExitI w ((m.L.length : Int) - (i : Int)) W2) ∧ KeepsFrom W0.heap.size W W2)
      (OwnFrom.and (ownFrom_below (Nat.le_refl _) (Nat.le_refl _)) (ownFrom_pure _ _)) (fun c => OwnFrom.and (fun s X Y row hs hg hr => ⟨hs.1, exitI_own (β := Unit) w _ _ (by have := hB01.size; have := HZ0.out; omega) () X Y row hs.2 hg hr⟩) (ownFrom_keepsFrom hb1.size)) ⟨Below.refl _ _, fun y hy => by cases hy⟩
      (fun (y : It x.b.txs) a2 W2 => ∃ B9, W1.heap.size ≤ B9 ∧ Blk W2 B9 53 y.val.2.cs ∧ a2 = { tmps := #[.pointer (some ⟨cb, 0, none⟩), .func (Fn.func 69) #[] #[.pointer (some ⟨px, 0, none⟩)], .pointer (some ⟨w.heap.size, 0, none⟩), .pointer (some ⟨w.heap.size + 1, 0, none⟩), .pointer (some ⟨w.heap.size + 1 + 1, 0, none⟩), .pointer (some ⟨w.heap.size + 1 + 1 + 1, 0, none⟩), .pointer (some ⟨B6, 0, none⟩), .pointer (some ⟨B7, 0, none⟩), undef, .pointer (some ⟨B9, 0, none⟩), .pointer (some ⟨cb, 0, none⟩), .pointer (some ⟨cb, 0, none⟩), .pointer (some ⟨cb, 1, none⟩), .slice m.A m.L.length m.c, .func (Fn.func 180) #[] #[.pointer (some ⟨w.heap.size + 1 + 1 + 1 + 1, 0, none⟩)], .int .i64 (i : Int), .agg x.cs, .pointer (some ⟨B7, 0, none⟩), .pointer (some ⟨B7, 2, none⟩), .slice x.b.A x.b.txs.length x.b.c, .func (Fn.func 181) #[] #[.pointer (some ⟨W.heap.size, 0, none⟩)], .int .i64 (y.val.1 : Int), .agg y.val.2.cs, undef, undef, undef, undef, undef, undef, undef, undef, undef, undef, undef, undef, undef], defers := [] })
      (fun y a2 _ X Y row hs hg hr => by
        obtain ⟨B9, h9, b9, e9⟩ := hs
        exact ⟨B9, h9, ownFrom_blk _ B9 _ (fun (_ : Unit) => _) () X Y row b9 hg hr, e9⟩)
      ?assign2 ?body2 ?done2 ?stop2
    case assign2 =>
      rintro l2 pre2 ⟨⟨j, ⟨yA, yi, yc, yB, yo, yd, ⟨ya, ys, yt, yP, yl, yp⟩⟩⟩, hjy⟩ W2 K ⟨hB2, hN2⟩ hK
      dsimp only [Txn.cs]
      gi_wp2_with fail
      have hb2 : Below W2.heap.size W2 (W2.alloc (.cells (Txn.mk yA yi yc yB yo yd ⟨ya, ys, yt, yP, yl, yp⟩).cs 53)) := (Below.refl _ _).alloc (Nat.le_refl _) _
      exact hK _ _ (keeps_below hb2) (hb2.mono hB2.size) ⟨hB2.trans (hb2.mono hB2.size), hN2⟩ ⟨W2.heap.size, hB2.size, Blk.new _ _ _, rfl⟩
    case body2 =>
      rintro l2 pre2 ⟨⟨j, y⟩, hjy⟩ a2 W2 hl2 ⟨r2, hr2⟩ ⟨hB2, hN2⟩ ⟨B9, h9, b9, rfl⟩ hlt2
      have hB02 : Below W0.heap.size W0 W2 := hB01.trans (hB2.mono hB01.size)
      have hwW2 : Below w.heap.size w W2 := hwW1.trans (hB2.mono hwW1.size)
      have hym : y ∈ x.b.txs := List.mem_of_getElem? hjy
      have c3 : W2.cell? ⟨w.heap.size + 1, 0, none⟩ = some (.func (Fn.func 69) #[] #[.pointer (some ⟨px, 0, none⟩)]) := (hB02.cell (p := ⟨w.heap.size + 1, 0, none⟩) (by rw [HZ0.out]; show w.heap.size + 1 < _; omega)).trans hP1
      have t0 : W2.cell? ⟨B9, 0, none⟩ = some (.slice y.A y.ins.length y.c) := b9.cell 0
      have t1 : W2.cell? ⟨B9, 1, none⟩ = some (.slice y.B y.outs.length y.d) := b9.cell 1
      have t2 : W2.cell? ⟨B9, 2, none⟩ = some (.int .u64 (y.p.am : Nat)) := b9.cell 2
      have t3 : W2.cell? ⟨B9, 3, none⟩ = some (.string y.p.sig) := b9.cell 3
      have t4 : W2.cell? ⟨B9, 4, none⟩ = some (.string y.p.tok) := b9.cell 4
      have t5 : W2.cell? ⟨B9, 5, none⟩ = some (.slice y.p.A y.p.l.length y.p.c) := b9.cell 5
      have KQ := HFF.out W2 hwW2 x hxm y hym
      gi_wp2_with fail
      refine ⟨trivial, ?_⟩
      refine (CallsIn.inRound l2 (CallsIn.inRound l (callsIn_wide.2 KQ))).mono ?_
      rintro e W3 ⟨rfl, hb3⟩
      clear t0 t1 t2 t3 t4 t5 c3 KQ
      generalize hqy : q y = bq
      cases bq with
      | false =>
        gi_wp2_with fail
        exact ⟨keeps_below hb3, hb3.mono hB2.size, hB2.trans (hb3.mono hB2.size), fun z hz => by
          rcases List.mem_append.1 hz with hz | hz
          · exact hN2 z hz
          · rw [List.mem_singleton.1 hz]; exact hqy⟩
      | true =>
        have hkx : i < m.L.length := (List.getElem?_eq_some_iff.1 hix).1
        have b93 : Blk W3 B9 53 y.cs := b9.bel hb3
        have hB03 : Below W0.heap.size W0 W3 := hB02.trans (hb3.mono hB02.size)
        have b63 : Blk W3 B6 3 #[.int .i64 (i : Int)] := by
          have hW3 : Below W.heap.size W W3 := (hb1.trans (hB2.mono hb1.size)).trans (hb3.mono (Nat.le_trans hb1.size hB2.size))
          exact b6.bel hW3
        have hwW3 : Below w.heap.size w W3 := hwW2.trans (hb3.mono hwW2.size)
        have hcn := HC.out.bel hwW3
        have p0 : W3.cell? ⟨w.heap.size, 0, none⟩ = some (.pointer (some ⟨cb, 0, none⟩)) := (hB03.cell (p := ⟨w.heap.size, 0, none⟩) (by rw [HZ0.out]; show w.heap.size < _; omega)).trans hP0
        have hT3 : Blk W3 (w.heap.size + 2) 53 zTxK := (hB03.block (w.heap.size + 2) (by rw [HZ0.out]; omega)).trans hT0
        have hI3 : Blk W3 (w.heap.size + 3) 3 #[.int .i64 0] := (hB03.block (w.heap.size + 3) (by rw [HZ0.out]; omega)).trans hI0
        have hle0 := hB01.size
        have hcb3 : cb < w.heap.size := HCB.out
        have z1 : wrap64 ((m.L.length : Int) - (i : Int)) = (m.L.length : Int) - (i : Int) := IntWalk.wrap64_in _ ⟨by omega, by omega⟩
        have z2 : IntKind.i64.wrap ((m.L.length : Int) - (i : Int)) = (m.L.length : Int) - (i : Int) := IntWalk.i64_in _ ⟨by omega, by omega⟩
        have HB9 : Hid (∀ W4, Ch [w.heap.size + 2, w.heap.size + 3] W3 W4 → Blk W4 B9 53 y.cs) := Lib.hid (fun W4 hc => b93.ch hc (by have := HZ0.out; simp; omega))
        have HP0 : Hid (∀ W4, Ch [w.heap.size + 2, w.heap.size + 3] W3 W4 → W4.cell? ⟨w.heap.size, 0, none⟩ = some (.pointer (some ⟨cb, 0, none⟩))) := Lib.hid (fun W4 hc => (ch_cell hc (p := ⟨w.heap.size, 0, none⟩) (by have := HZ0.out; have := hB03.size; show w.heap.size < _; omega) (by simp)).trans p0)
        have HSL : Hid (∀ W4, Ch [w.heap.size + 2, w.heap.size + 3] W3 W4 → W4.cell? ⟨cb, 1, none⟩ = some (.slice m.A m.L.length m.c)) := Lib.hid (fun W4 hc => (ch_cell hc (p := ⟨cb, 1, none⟩) (Nat.lt_of_lt_of_le hcb3 hwW3.size) (by simp; omega)).trans (hcn.hd.cell 1))
        have HI6 : Hid (∀ W4, Ch [w.heap.size + 2, w.heap.size + 3] W3 W4 → W4.cell? ⟨B6, 0, none⟩ = some (.int .i64 (i : Int))) := Lib.hid (fun W4 hc => (b63.ch hc (by have := HZ0.out; simp; omega)).cell 0)
        have HNZ := Lib.hid ((hlm.mem.bel hwW3).txs y hym)
        have HTY := Lib.hid (HTX.out x hxm y hym)
        have HK3 : Hid (∀ W4, Ch [w.heap.size + 2, w.heap.size + 3] W3 W4 → KeepsFrom W1.heap.size W2 W4 ∧ KeepsFrom W0.heap.size W W4) := Lib.hid (fun W4 hc => ⟨(keeps_below hb3).trans (keeps_ch hc (by have := HZ0.out; intro b hb; simp at hb; omega)), (keeps_below ((hb1.trans (hB2.mono hb1.size)).trans (hb3.mono (Nat.le_trans hb1.size hB2.size)))).trans (keeps_ch hc (by have := HZ0.out; intro b hb; simp at hb; omega))⟩)
        have HWX : Hid (∀ W4, Ch [w.heap.size + 2, w.heap.size + 3] W3 W4 → Below w.heap.size w W4) := Lib.hid (fun W4 hc => hwW3.trans (hc.below hwW3.size (by intro b hb; simp at hb; omega)))
        have HT3 := Lib.hid hT3
        have HI3 := Lib.hid hI3
        clear b93 b63 p0 hcn hT3 hI3 b9 hwW3 hbm
        gi_wp2_with fail
        refine (show Code.wpIn (Fence.wide.inRound l2) _ _ _ _ _ _ from region_round_held (S := fun W4 => Hid (Ch [w.heap.size + 2, w.heap.size + 3] W3 W4)) (by rintro ⟨a, w', h⟩; exact h) (by kernel_rfl) (by kernel_rfl) (Lib.hid (Ch.of_below (Below.refl _ _).drew _)) (fun hS0 => ?_))
        refine wpAnyH_genT fun X hX => ?_
        have hS : Hid (Ch [w.heap.size + 2, w.heap.size + 3] W3 X) := Lib.hid (by rw [hX]; exact Ch.of_below (Below.refl _ _).drew _)
        have HBX : Hid (Below W3.heap.size W3 X) := Lib.hid (by rw [hX]; exact (Below.refl _ _).drew)
        clear hX hS0
        refine wpAnyH_take (i := 0) (v := .agg y.cs) rfl (by kernel_rfl) (by kernel_rfl) (by kernel_rfl) (fun _ _ _ h => h) (yields_blk (by rfl) 53 (.tmp 9) (by rfl) B9 0 6 (t := 53) (cs := y.cs) (fun W h => HB9.out W h.out) y.cs (by go_simp) (txn_ext y) Tryz.underlying53 infoTx (Nat.le_refl 6)) hS ?_
        refine wpAnyH_take (i := 2) (v := ?_) rfl (by kernel_rfl) (by kernel_rfl) (by kernel_rfl) (fun _ _ _ h => h) (Or.inl ⟨by rfl, ?_⟩) hS ?_
        rotate_left
        · (intro w hS'; have hcell := (HP0.out _ (Hid.out hS')); go_simp; try with_reducible rfl)
        refine wpAnyH_take (i := 3) (v := ?_) rfl (by kernel_rfl) (by kernel_rfl) (by kernel_rfl) (fun _ _ _ h => h) (Or.inl ⟨by rfl, ?_⟩) hS ?_
        rotate_left
        · (intro w _; go_simp; try with_reducible rfl)
        refine wpAnyH_take (i := 4) (v := ?_) rfl (by kernel_rfl) (by kernel_rfl) (by kernel_rfl) (fun _ _ _ h => h) (Or.inl ⟨by rfl, ?_⟩) hS ?_
        rotate_left
        · (intro w _; go_simp; try with_reducible rfl)
        refine wpAnyH_take (i := 5) (v := ?_) rfl (by kernel_rfl) (by kernel_rfl) (by kernel_rfl) (fun _ _ _ h => h) (Or.inl ⟨by rfl, ?_⟩) hS ?_
        rotate_left
        · (intro w hS'; have hcell := (HSL.out _ (Hid.out hS')); go_simp; try with_reducible rfl)
        refine wpAnyH_take (i := 6) (v := ?_) rfl (by kernel_rfl) (by kernel_rfl) (by kernel_rfl) (fun _ _ _ h => h) (Or.inl ⟨by rfl, ?_⟩) hS ?_
        rotate_left
        · (intro w _; go_simp; try with_reducible rfl)
        refine wpAnyH_take (i := 7) (v := ?_) rfl (by kernel_rfl) (by kernel_rfl) (by kernel_rfl) (fun _ _ _ h => h) (Or.inl ⟨by rfl, ?_⟩) hS ?_
        rotate_left
        · (intro w hS'; have hcell := (HI6.out _ (Hid.out hS')); go_simp; try with_reducible rfl)
        refine wpAnyH_take (i := 8) (v := ?_) rfl (by kernel_rfl) (by kernel_rfl) (by kernel_rfl) (fun _ _ _ h => h) (Or.inl ⟨by rfl, ?_⟩) hS ?_
        rotate_left
        · (intro w _; go_simp; try with_reducible rfl)
        refine wpAnyH_ready (rs := [1]) (by kernel_rfl) (by simp) (AllReadyH.cons rfl (fun K hK => ?_) AllReadyH.nil)
        go_simp
        refine (copy_any y X (HNZ.out.1.bel HBX.out) HNZ.out.2 HTY.out.ins HTY.out.outs HTY.out.pf.len).mono ?_
        rintro e X2 ⟨u, rfl, _, _, hb⟩
        have hS2 : Hid (Ch [w.heap.size + 2, w.heap.size + 3] W3 X2) := Lib.hid (hS.out.trans (Ch.of_below hb _))
        have HT4 := Lib.hid ((HT3.out.bel HBX.out).bel hb)
        have HI4 := Lib.hid ((HI3.out.bel HBX.out).bel hb)
        clear hb
        go_simp
        refine hK.out _ _ hS2 (fun _ => ?_)
        clear hK K
        refine wpAnyH_ready (rs := [9]) (by kernel_rfl) (by simp) (AllReadyH.cons rfl (fun K hK => ?_) AllReadyH.nil)
        refine step_store_part (by rfl) 53 (.tmp 4) (.tmp 27) (by rfl) (w.heap.size + 1 + 1) 0 HT4.out u.cs u.cs (by go_simp) (by go_simp) (Nat.le_refl 6) infoTx (txncs_one u) (txn_over u rfl) ?_
        intro X3 hz3 hz4
        have hS3 : Hid (Ch [w.heap.size + 2, w.heap.size + 3] W3 X3) := Lib.hid (hS2.out.trans (hz4.mono (by intro b hb; simp at hb; left; simp; omega)))
        have HT5 := Lib.hid hz3
        have HI5 := Lib.hid (HI4.out.ch hz4 (by simp))
        clear hz3 hz4
        refine hK.out _ _ hS3 (fun _ => ?_)
        clear hK K
        have q0 : X3.cell? ⟨w.heap.size + 1 + 1 + 1, 0, none⟩ = some (.int .i64 0) := HI5.out.cell 0
        have r0 : X3.frozen? ⟨w.heap.size + 1 + 1 + 1, 0, none⟩ = false := HI5.out.frozen 0
        refine wpAnyH_ready (rs := [10]) (by kernel_rfl) (by simp) (AllReadyH.cons rfl (fun K hK => ?_) AllReadyH.nil)
        go_simp
        have hS4 : Hid (Ch [w.heap.size + 2, w.heap.size + 3] W3 (X3.setCell ⟨w.heap.size + 1 + 1 + 1, 0, none⟩ (.int .i64 ((m.L.length : Int) - (i : Int))))) := Lib.hid (hS3.out.trans (Ch.set_ (by simp) _ _ _))
        refine hK.out _ _ hS4 (fun _ => ?_)
        clear hK K
        refine wpAnyH_done (by kernel_rfl) ?_ _
        try go_simp
        gi_wp2_with fail
        exact ⟨(HK3.out _ hS4.out).1, ⟨rfl, u, HT5.out.far (p := ⟨w.heap.size + 1 + 1 + 1, 0, none⟩) (by simp) _, HI5.out.set_ 0 _, HWX.out _ hS4.out⟩, (HK3.out _ hS4.out).2⟩
    case done2 =>
      rintro xs W2 hS2 ⟨hB2, hN2⟩
      gi_wp2_with fail
      have hb02 : Below W.heap.size W W2 := hb1.trans (hB2.mono hb1.size)
      exact ⟨keeps_below hb02, hb02.mono hB.size, hB.trans (hb02.mono hB.size), fun z hz => by
        rcases List.mem_append.1 hz with hz | hz
        · exact hN z hz
        · rw [List.mem_singleton.1 hz]
          intro t ht
          obtain ⟨kt, hkt, e⟩ := List.getElem_of_mem ht
          obtain ⟨z2, hz2, e2⟩ := all_met hS2 (List.getElem?_eq_getElem hkt)
          have := hN2 z2 hz2
          rw [e2] at this
          rw [← e]; exact this⟩
    case stop2 =>
      rintro c pre2 W2 hS2 ⟨⟨rfl, hE⟩, hK2⟩
      gi_wp2_with fail
      exact ⟨hK2, rfl, pre, ⟨(i, x), hix⟩, rfl, hN, hE⟩
  case stop =>
    rintro D c pre W hD hSp ⟨rfl, pre0, y, rfl, hN, u, hT, hI, hB⟩ hK
    have hk1 : ∀ (k : Nat) x, m.L[k]? = some x → (∃ t ∈ x.b.txs, q t = true) → 1 ≤ (m.L.length : Int) - (y.val.1 : Int) ∧ (m.L.length : Int) - (y.val.1 : Int) ≤ (m.L.length : Int) - k := by
      intro k x hx ⟨t, ht, hq⟩
      have hy : y.val.1 < m.L.length := (List.getElem?_eq_some_iff.1 y.property).1
      refine ⟨by omega, ?_⟩
      by_cases hky : y.val.1 < k
      · obtain ⟨z, hz, e⟩ := ahead_met hSp hx hky
        have := hN z hz t (by rw [e]; exact ht)
        rw [hq] at this; cases this
      · omega
    have HK1 := Lib.hid hk1
    have v0 : W.cell? ⟨w.heap.size + 1 + 1 + 1, 0, none⟩ = some (.int .i64 ((m.L.length : Int) - (y.val.1 : Int))) := hI.cell 0
    have hlt : w.heap.size + 5 ≤ D := by rw [← HZ0.out]; exact hD
    have hb8 : Below w.heap.size w (W.putObj D (.deferred none)) := hB.trans ((Ch.of_grown (grownBy_putObj' _ D _)).below hB.size (by simp; omega))
    have ht8 : Blk (W.putObj D (.deferred none)) (w.heap.size + 2) 53 u.cs := (World.putObj_heap_other (by omega)).trans hT
    have v8 : (W.putObj D (.deferred none)).cell? ⟨w.heap.size + 1 + 1 + 1, 0, none⟩ = some (.int .i64 ((m.L.length : Int) - (y.val.1 : Int))) := Blk.cell (g := w.heap.size + 3) ((World.putObj_heap_other (by omega)).trans hI) 0
    clear hk1 hT0 hI0 hN0 hB0 hP0 hP1
    gi_wp2_with fail
    refine ⟨by simp, .inl ⟨_, _, rfl, run_takeDeferred hK, ?_⟩⟩
    exact ⟨_, results_cells2 (ty2 := 3) rfl _ ht8 rfl Tryz.underlying53 infoTx (a2 := ⟨w.heap.size + 1 + 1 + 1, 0, none⟩) (v := .int .i64 ((m.L.length : Int) - (y.val.1 : Int))) rfl (by simp [go_sem, v8]), u, _, rfl, HK1.out, hb8⟩
  case done =>
    rintro D xs W hD hS ⟨hB, hN⟩ hK
    have hBw : Below w.heap.size w W := hB0.trans (hB.mono hB0.size)
    have HB := Lib.hid hBw
    have HK := Lib.hid hK
    have HT := Lib.hid (show Blk W (w.heap.size + 2) 53 zTxK from (hB.block (w.heap.size + 2) (by rw [HZ0.out]; omega)).trans hT0)
    have HI := Lib.hid (show Blk W (w.heap.size + 3) 3 #[.int .i64 0] from (hB.block (w.heap.size + 3) (by rw [HZ0.out]; omega)).trans hI0)
    have hD2 : w.heap.size + 5 ≤ D := by rw [← HZ0.out]; exact hD
    have HK1 : Hid (∀ (k : Nat) x, m.L[k]? = some x → (∃ t ∈ x.b.txs, q t = true) → 1 ≤ (0 : Int) ∧ (0 : Int) ≤ (m.L.length : Int) - k) := Lib.hid (fun k x hx ⟨t, ht, hq⟩ => by
      obtain ⟨y, hy, e⟩ := all_met hS hx
      have := hN y hy t (by rw [e]; exact ht)
      rw [hq] at this; cases this)
    clear hBw hK hT0 hI0 hN0 hB0 hP0 hP1 hS hN hB
    have t0 : W.cell? ⟨w.heap.size + 1 + 1, 0, none⟩ = some (.slice none 0 0) := HT.out.cell 0
    have z0 : W.frozen? ⟨w.heap.size + 1 + 1, 0, none⟩ = false := HT.out.frozen 0
    have t1 : W.cell? ⟨w.heap.size + 1 + 1, 1, none⟩ = some (.slice none 0 0) := HT.out.cell 1
    have z1 : W.frozen? ⟨w.heap.size + 1 + 1, 1, none⟩ = false := HT.out.frozen 1
    have t2 : W.cell? ⟨w.heap.size + 1 + 1, 2, none⟩ = some (.int .u64 0) := HT.out.cell 2
    have z2 : W.frozen? ⟨w.heap.size + 1 + 1, 2, none⟩ = false := HT.out.frozen 2
    have t3 : W.cell? ⟨w.heap.size + 1 + 1, 3, none⟩ = some (.string ByteArray.empty) := HT.out.cell 3
    have z3 : W.frozen? ⟨w.heap.size + 1 + 1, 3, none⟩ = false := HT.out.frozen 3
    have t4 : W.cell? ⟨w.heap.size + 1 + 1, 4, none⟩ = some (.string ByteArray.empty) := HT.out.cell 4
    have z4 : W.frozen? ⟨w.heap.size + 1 + 1, 4, none⟩ = false := HT.out.frozen 4
    have t5 : W.cell? ⟨w.heap.size + 1 + 1, 5, none⟩ = some (.slice none 0 0) := HT.out.cell 5
    have z5 : W.frozen? ⟨w.heap.size + 1 + 1, 5, none⟩ = false := HT.out.frozen 5
    have t6 : W.cell? ⟨w.heap.size + 1 + 1 + 1, 0, none⟩ = some (.int .i64 0) := HI.out.cell 0
    have z6 : W.frozen? ⟨w.heap.size + 1 + 1 + 1, 0, none⟩ = false := HI.out.frozen 0
    gi_wp2_with fail
    generalize hW7 : World.setCell (World.setCell (World.setCell (World.setCell (World.setCell (World.setCell (World.setCell W ⟨w.heap.size + 1 + 1, 0, none⟩ (.slice none 0 0)) ⟨w.heap.size + 1 + 1, 1, none⟩ (.slice none 0 0)) ⟨w.heap.size + 1 + 1, 2, none⟩ (.int .u64 0)) ⟨w.heap.size + 1 + 1, 3, none⟩ (.string ⟨#[]⟩)) ⟨w.heap.size + 1 + 1, 4, none⟩ (.string ⟨#[]⟩)) ⟨w.heap.size + 1 + 1, 5, none⟩ (.slice none 0 0)) ⟨w.heap.size + 1 + 1 + 1, 0, none⟩ (.int .i64 0) = W7
    have HC7 : Hid (Ch [w.heap.size + 2, w.heap.size + 3] W W7) := Lib.hid (by
      rw [← hW7]
      exact ((((((Ch.set_ (b := w.heap.size + 2) (by simp) _ _ _).trans (Ch.set_ (b := w.heap.size + 2) (by simp) _ _ _)).trans (Ch.set_ (b := w.heap.size + 2) (by simp) _ _ _)).trans (Ch.set_ (b := w.heap.size + 2) (by simp) _ _ _)).trans (Ch.set_ (b := w.heap.size + 2) (by simp) _ _ _)).trans (Ch.set_ (b := w.heap.size + 2) (by simp) _ _ _)).trans (Ch.set_ (b := w.heap.size + 3) (by simp) _ _ _))
    have HT7 : Hid (Blk W7 (w.heap.size + 2) 53 zTxK) := Lib.hid (by
      rw [← hW7]
      exact ((((((HT.out.set_ 0 (.slice none 0 0)).set_ 1 (.slice none 0 0)).set_ 2 (.int .u64 0)).set_ 3 (.string ByteArray.empty)).set_ 4 (.string ByteArray.empty)).set_ 5 (.slice none 0 0)).far (p := ⟨w.heap.size + 1 + 1 + 1, 0, none⟩) (by simp) _)
    have HI7 : Hid (Blk W7 (w.heap.size + 3) 3 #[.int .i64 0]) := Lib.hid (by
      rw [← hW7]
      exact ((((((HI.out.far (p := ⟨w.heap.size + 1 + 1, 0, none⟩) (by simp) _).far (p := ⟨w.heap.size + 1 + 1, 1, none⟩) (by simp) _).far (p := ⟨w.heap.size + 1 + 1, 2, none⟩) (by simp) _).far (p := ⟨w.heap.size + 1 + 1, 3, none⟩) (by simp) _).far (p := ⟨w.heap.size + 1 + 1, 4, none⟩) (by simp) _).far (p := ⟨w.heap.size + 1 + 1, 5, none⟩) (by simp) _).set_ 0 (.int .i64 0))
    have hk7 : W7.heap[D]? = some (.deferred (some [])) := (HC7.out.block D (Array.getElem?_eq_some_iff.1 HK.out).1 (by simp; omega)).trans HK.out
    have hb7 : Below w.heap.size w W7 := HB.out.trans (HC7.out.below HB.out.size (by simp))
    have hb8 : Below w.heap.size w (W7.putObj D (.deferred none)) := hb7.trans ((Ch.of_grown (grownBy_putObj' _ D _)).below hb7.size (by simp; omega))
    have ht8 : Blk (W7.putObj D (.deferred none)) (w.heap.size + 2) 53 zTxK := (World.putObj_heap_other (by omega)).trans HT7.out
    have v0 : (W7.putObj D (.deferred none)).cell? ⟨w.heap.size + 1 + 1 + 1, 0, none⟩ = some (.int .i64 0) := Blk.cell (g := w.heap.size + 3) ((World.putObj_heap_other (by omega)).trans HI7.out) 0
    clear hW7
    refine ⟨by simp, .inl ⟨_, _, rfl, run_takeDeferred hk7, ?_⟩⟩
    exact ⟨_, results_cells2 (ty2 := 3) rfl _ ht8 rfl Tryz.underlying53 infoTx (a2 := ⟨w.heap.size + 1 + 1 + 1, 0, none⟩) (v := .int .i64 0) rfl (by simp [go_sem, v0]), (⟨none, [], 0, none, [], 0, ⟨0, ByteArray.empty, ByteArray.empty, none, [], 0⟩⟩ : Txn), 0, rfl, HK1.out, hb8⟩
set_option maxRecDepth 100000 in
set_option maxHeartbeats 4000000 in
theorem clast_spent (q : Txn → Bool) (px : Nat) (cb : Nat) (m : CnM) (s : Cn) (w : World) (hC : CnAt w cb m s) (hl : m.L.length ≤ 1000) (htx : ∀ x ∈ m.L, x.b.txs.length ≤ 1000) (hok : ∀ x ∈ m.L, ∀ t ∈ x.b.txs, TxOk t)
    (HF : ∀ W, Below w.heap.size w W → ∀ x ∈ m.L, ∀ t ∈ x.b.txs, Calls Tryz.prog 71 (#[.agg t.cs] ++ #[.pointer (some ⟨px, 0, none⟩)]) W fun e w' => e = .returned (.bool (q t)) ∧ Below W.heap.size W w') :
    Calls Tryz.prog 68 #[.pointer (some ⟨cb, 0, none⟩), .func (Fn.func 71) #[] #[.pointer (some ⟨px, 0, none⟩)]] w fun e w' => ∃ (u : Txn) (n : Int), e = .returned (.tuple #[.agg u.cs, .int .i64 n]) ∧ (∀ (k : Nat) x, m.L[k]? = some x → (∃ t ∈ x.b.txs, q t = true) → 1 ≤ n ∧ n ≤ (m.L.length : Int) - k) ∧ Below w.heap.size w w' := by
  have HC := Lib.hid hC
  have HFF := Lib.hid HF
  have HTL := Lib.hid htx
  have HTX := Lib.hid hok
  have HCB := Lib.hid hC.hd.lt
  have h1 : w.cell? ⟨cb, 1, none⟩ = some (.slice m.A m.L.length m.c) := hC.hd.cell 1
  have hcb := hC.hd.lt
  have q1 : ∀ o1 o2 o3 o4, ((((w.alloc o1).alloc o2).alloc o3).alloc o4).cell? ⟨cb, 1, none⟩ = some (.slice m.A m.L.length m.c) := fun o1 o2 o3 o4 => by
    rw [World.cell?_alloc_lt _ _ _ (by simp; omega), World.cell?_alloc_lt _ _ _ (by simp; omega), World.cell?_alloc_lt _ _ _ (by simp; omega), World.cell?_alloc_lt _ _ _ hcb, h1]
  clear hC HF htx hok
  refine (callsIn_wide (n := 9)).1 ?_
  refine callsIn_of_wp_marks Tryz.func68 rfl trivial ?_ rfl
  simp only [Tryz.ntmps68, List.size_toArray, List.length_cons, List.length_nil, Nat.reduceAdd, Nat.reduceSub, Array.replicate_succ, Array.replicate_zero, List.push_toArray, List.append_toArray, List.nil_append, List.cons_append]
  gi_wp2_with fail
  refine ⟨trivial, ?_⟩
  refine (callsIn_wide.2 (backwardF_any m.A m.L.length m.c _)).mono ?_
  rintro e w1 ⟨rfl, rfl⟩
  gi_wp2_with fail
  refine wpIn_gen fun W0 hW0 => ?_
  have hz0 : W0.heap.size = w.heap.size + 5 := by rw [hW0]; simp
  have hT0 : Blk W0 (w.heap.size + 2) 53 zTxK := by rw [hW0]; exact ((Blk.newAt (by simp)).alloc _).alloc _
  have hI0 : Blk W0 (w.heap.size + 3) 3 #[.int .i64 0] := by rw [hW0]; exact (Blk.newAt (by simp)).alloc _
  have hN0 : Blk W0 (w.heap.size + 4) 134 #[.slice m.A m.L.length m.c] := by rw [hW0]; exact Blk.newAt (by simp)
  have hB0 : Below w.heap.size w W0 := by rw [hW0]; exact (((((Below.refl _ _).alloc (Nat.le_refl _) _).alloc (by simp) _).alloc (by simp; omega) _).alloc (by simp; omega) _).alloc (by simp; omega) _
  have hP0 : W0.cell? ⟨w.heap.size, 0, none⟩ = some (.pointer (some ⟨cb, 0, none⟩)) := by
    rw [hW0]; exact Blk.cell ((((((Blk.new w _ _).alloc _).alloc _).alloc _).alloc _)) 0
  have hP1 : W0.cell? ⟨w.heap.size + 1, 0, none⟩ = some (.func (Fn.func 71) #[] #[.pointer (some ⟨px, 0, none⟩)]) := by
    rw [hW0]; exact Blk.cell (((((Blk.newAt (by simp) : Blk _ (w.heap.size + 1) _ _).alloc _).alloc _).alloc _)) 0
  have HZ0 := Lib.hid hz0
  clear hW0 q1 hz0
  refine wpIn_rangeFunc_ownH rfl (by decide) (gf := 180) (lb := #[.pointer (some ⟨w.heap.size + 4, 0, none⟩)]) rfl trivial (enters_of Tryz.func180 (by kernel_rfl) rfl)
    (backward_lm 8 (w.heap.size + 4) (by decide) m.A m.L m.c W0 hN0 (HC.out.bel hB0).sl (by omega)) belowK_t (belowK_b (Nat.le_refl _)) (Below.refl _ _) (fun _ => rfl)
    (fun (pre : List (It m.L)) W => Below W0.heap.size W0 W ∧ NoHit q pre) (fun c (pre : List (It m.L)) W => c = .ret ∧ ExitF q w m.L pre W)
    (OwnFrom.and (ownFrom_below (Nat.le_refl _) (Nat.le_refl _)) (ownFrom_pure _ _)) (fun c => exitF_own q w m.L _ (by have := HZ0.out; omega) c) ⟨Below.refl _ _, fun y hy => by cases hy⟩
    (fun (x : It m.L) a' W => ∃ B6 B7, W0.heap.size ≤ B6 ∧ W0.heap.size ≤ B7 ∧ Blk W B6 3 #[.int .i64 (x.val.1 : Int)] ∧ Blk W B7 152 x.val.2.cs ∧ a' = { tmps := #[.pointer (some ⟨cb, 0, none⟩), .func (Fn.func 71) #[] #[.pointer (some ⟨px, 0, none⟩)], .pointer (some ⟨w.heap.size, 0, none⟩), .pointer (some ⟨w.heap.size + 1, 0, none⟩), .pointer (some ⟨w.heap.size + 1 + 1, 0, none⟩), .pointer (some ⟨w.heap.size + 1 + 1 + 1, 0, none⟩), .pointer (some ⟨B6, 0, none⟩), .pointer (some ⟨B7, 0, none⟩), undef, undef, .pointer (some ⟨cb, 0, none⟩), .pointer (some ⟨cb, 0, none⟩), .pointer (some ⟨cb, 1, none⟩), .slice m.A m.L.length m.c, .func (Fn.func 180) #[] #[.pointer (some ⟨w.heap.size + 1 + 1 + 1 + 1, 0, none⟩)], .int .i64 (x.val.1 : Int), .agg x.val.2.cs, undef, undef, undef, undef, undef, undef, undef, undef, undef, undef, undef, undef, undef, undef, undef, undef, undef, undef, undef], defers := [] })
    (fun x a' _ X Y row hs hg hr => by
      obtain ⟨B6, B7, h6, h7, h8, h9, h10⟩ := hs
      exact ⟨B6, B7, h6, h7, ownFrom_blk _ B6 _ (fun (_ : Unit) => _) () X Y row h8 hg hr, ownFrom_blk _ B7 _ (fun (_ : Unit) => _) () X Y row h9 hg hr, h10⟩) ?assign ?body ?done ?stop
  case assign =>
    rintro l pre ⟨⟨i, ⟨⟨bh, bp, bA, bt, bc⟩, bs, bm⟩⟩, hix⟩ W K ⟨hB, hN⟩ hK
    dsimp only [Lm.cs]
    gi_wp2_with fail
    have hb2 : Below W.heap.size W ((W.alloc (.cells #[.int .i64 (i : Int)] 3)).alloc (.cells (Lm.mk ⟨bh, bp, bA, bt, bc⟩ bs bm).cs 152)) := ((Below.refl _ _).alloc (Nat.le_refl _) _).alloc (by simp) _
    exact hK _ _ (keeps_below hb2) (hb2.mono hB.size) ⟨hB.trans (hb2.mono hB.size), hN⟩ ⟨W.heap.size, W.heap.size + 1, hB.size, Nat.le_succ_of_le hB.size, (Blk.new _ _ _).alloc _, Blk.newAt (by simp), rfl⟩
  case body =>
    rintro l pre ⟨⟨i, x⟩, hix⟩ a' W hlw ⟨r, hr⟩ ⟨hB, hN⟩ ⟨B6, B7, h6, h7, b6, b7, rfl⟩ hlt
    have c2 : W.cell? ⟨B7, 2, none⟩ = some (.slice x.b.A x.b.txs.length x.b.c) := b7.cell 2
    gi_wp2_with fail
    refine ⟨trivial, ?_⟩
    refine (CallsIn.inRound l (callsIn_wide.2 (backwardFt_any x.b.A x.b.txs.length x.b.c _))).mono ?_
    rintro e w1 ⟨rfl, rfl⟩
    gi_wp2_with fail
    refine wpIn_gen fun W1 hW1 => ?_
    have hb1 : Below W.heap.size W W1 := by rw [hW1]; exact (Below.refl _ _).alloc (Nat.le_refl _) _
    have hN1 : Blk W1 W.heap.size 32 #[.slice x.b.A x.b.txs.length x.b.c] := by rw [hW1]; exact Blk.new _ _ _
    have hr1 : W1.heap[l]? = some (.loop r) := (hb1.block l (Array.getElem?_eq_some_iff.1 hr).1).trans hr
    clear hW1
    have hB01 : Below W0.heap.size W0 W1 := hB.trans (hb1.mono hB.size)
    have hxm : x ∈ m.L := List.mem_of_getElem? hix
    obtain ⟨yw, _, hlm⟩ := HC.out.last (List.getElem?_eq_some_iff.1 hix).1
    rw [(List.getElem?_eq_some_iff.1 hix).2] at hlm
    have hwW1 : Below w.heap.size w W1 := hB0.trans (hB01.mono hB0.size)
    have hbm := hlm.mem.bel hwW1
    have htl : x.b.txs.length ≤ 1000 := HTL.out x hxm
    refine wpIn_rangeFunc_ownN (l₀ := l) (r₀ := r) rfl hr1 (by decide) (gf := 181) (lb := #[.pointer (some ⟨W.heap.size, 0, none⟩)]) rfl trivial (enters_of Tryz.func181 (by kernel_rfl) rfl)
      ((backward_tx _ W.heap.size (by decide) x.b.A x.b.txs x.b.c W1 hN1 hbm.sl (by omega)).inRound l) belowK_t (belowK_b (Nat.le_refl _)) (Below.refl _ _) (fun _ => rfl)
      (fun (pre2 : List (It x.b.txs)) W2 => Below W1.heap.size W1 W2 ∧ ∀ y ∈ pre2, q y.val.2 = false) (fun c (_ : List (It x.b.txs)) W2 => (c = .ret ∧ ExitI w ((m.L.length : Int) - (i : Int)) W2) ∧ KeepsFrom W0.heap.size W W2)
      (OwnFrom.and (ownFrom_below (Nat.le_refl _) (Nat.le_refl _)) (ownFrom_pure _ _)) (fun c => OwnFrom.and (fun s X Y row hs hg hr => ⟨hs.1, exitI_own (β := Unit) w _ _ (by have := hB01.size; have := HZ0.out; omega) () X Y row hs.2 hg hr⟩) (ownFrom_keepsFrom hb1.size)) ⟨Below.refl _ _, fun y hy => by cases hy⟩
      (fun (y : It x.b.txs) a2 W2 => ∃ B9, W1.heap.size ≤ B9 ∧ Blk W2 B9 53 y.val.2.cs ∧ a2 = { tmps := #[.pointer (some ⟨cb, 0, none⟩), .func (Fn.func 71) #[] #[.pointer (some ⟨px, 0, none⟩)], .pointer (some ⟨w.heap.size, 0, none⟩), .pointer (some ⟨w.heap.size + 1, 0, none⟩), .pointer (some ⟨w.heap.size + 1 + 1, 0, none⟩), .pointer (some ⟨w.heap.size + 1 + 1 + 1, 0, none⟩), .pointer (some ⟨B6, 0, none⟩), .pointer (some ⟨B7, 0, none⟩), undef, .pointer (some ⟨B9, 0, none⟩), .pointer (some ⟨cb, 0, none⟩), .pointer (some ⟨cb, 0, none⟩), .pointer (some ⟨cb, 1, none⟩), .slice m.A m.L.length m.c, .func (Fn.func 180) #[] #[.pointer (some ⟨w.heap.size + 1 + 1 + 1 + 1, 0, none⟩)], .int .i64 (i : Int), .agg x.cs, .pointer (some ⟨B7, 0, none⟩), .pointer (some ⟨B7, 2, none⟩), .slice x.b.A x.b.txs.length x.b.c, .func (Fn.func 181) #[] #[.pointer (some ⟨W.heap.size, 0, none⟩)], .int .i64 (y.val.1 : Int), .agg y.val.2.cs, undef, undef, undef, undef, undef, undef, undef, undef, undef, undef, undef, undef, undef], defers := [] })
      (fun y a2 _ X Y row hs hg hr => by
        obtain ⟨B9, h9, b9, e9⟩ := hs
        exact ⟨B9, h9, ownFrom_blk _ B9 _ (fun (_ : Unit) => _) () X Y row b9 hg hr, e9⟩)
      ?assign2 ?body2 ?done2 ?stop2
    case assign2 =>
      rintro l2 pre2 ⟨⟨j, ⟨yA, yi, yc, yB, yo, yd, ⟨ya, ys, yt, yP, yl, yp⟩⟩⟩, hjy⟩ W2 K ⟨hB2, hN2⟩ hK
      dsimp only [Txn.cs]
      gi_wp2_with fail
      have hb2 : Below W2.heap.size W2 (W2.alloc (.cells (Txn.mk yA yi yc yB yo yd ⟨ya, ys, yt, yP, yl, yp⟩).cs 53)) := (Below.refl _ _).alloc (Nat.le_refl _) _
      exact hK _ _ (keeps_below hb2) (hb2.mono hB2.size) ⟨hB2.trans (hb2.mono hB2.size), hN2⟩ ⟨W2.heap.size, hB2.size, Blk.new _ _ _, rfl⟩
    case body2 =>
      rintro l2 pre2 ⟨⟨j, y⟩, hjy⟩ a2 W2 hl2 ⟨r2, hr2⟩ ⟨hB2, hN2⟩ ⟨B9, h9, b9, rfl⟩ hlt2
      have hB02 : Below W0.heap.size W0 W2 := hB01.trans (hB2.mono hB01.size)
      have hwW2 : Below w.heap.size w W2 := hwW1.trans (hB2.mono hwW1.size)
      have hym : y ∈ x.b.txs := List.mem_of_getElem? hjy
      have c3 : W2.cell? ⟨w.heap.size + 1, 0, none⟩ = some (.func (Fn.func 71) #[] #[.pointer (some ⟨px, 0, none⟩)]) := (hB02.cell (p := ⟨w.heap.size + 1, 0, none⟩) (by rw [HZ0.out]; show w.heap.size + 1 < _; omega)).trans hP1
      have t0 : W2.cell? ⟨B9, 0, none⟩ = some (.slice y.A y.ins.length y.c) := b9.cell 0
      have t1 : W2.cell? ⟨B9, 1, none⟩ = some (.slice y.B y.outs.length y.d) := b9.cell 1
      have t2 : W2.cell? ⟨B9, 2, none⟩ = some (.int .u64 (y.p.am : Nat)) := b9.cell 2
      have t3 : W2.cell? ⟨B9, 3, none⟩ = some (.string y.p.sig) := b9.cell 3
      have t4 : W2.cell? ⟨B9, 4, none⟩ = some (.string y.p.tok) := b9.cell 4
      have t5 : W2.cell? ⟨B9, 5, none⟩ = some (.slice y.p.A y.p.l.length y.p.c) := b9.cell 5
      have KQ := HFF.out W2 hwW2 x hxm y hym
      gi_wp2_with fail
      refine ⟨trivial, ?_⟩
      refine (CallsIn.inRound l2 (CallsIn.inRound l (callsIn_wide.2 KQ))).mono ?_
      rintro e W3 ⟨rfl, hb3⟩
      clear t0 t1 t2 t3 t4 t5 c3 KQ
      generalize hqy : q y = bq
      cases bq with
      | false =>
        gi_wp2_with fail
        exact ⟨keeps_below hb3, hb3.mono hB2.size, hB2.trans (hb3.mono hB2.size), fun z hz => by
          rcases List.mem_append.1 hz with hz | hz
          · exact hN2 z hz
          · rw [List.mem_singleton.1 hz]; exact hqy⟩
      | true =>
        have hkx : i < m.L.length := (List.getElem?_eq_some_iff.1 hix).1
        have b93 : Blk W3 B9 53 y.cs := b9.bel hb3
        have hB03 : Below W0.heap.size W0 W3 := hB02.trans (hb3.mono hB02.size)
        have b63 : Blk W3 B6 3 #[.int .i64 (i : Int)] := by
          have hW3 : Below W.heap.size W W3 := (hb1.trans (hB2.mono hb1.size)).trans (hb3.mono (Nat.le_trans hb1.size hB2.size))
          exact b6.bel hW3
        have hwW3 : Below w.heap.size w W3 := hwW2.trans (hb3.mono hwW2.size)
        have hcn := HC.out.bel hwW3
        have p0 : W3.cell? ⟨w.heap.size, 0, none⟩ = some (.pointer (some ⟨cb, 0, none⟩)) := (hB03.cell (p := ⟨w.heap.size, 0, none⟩) (by rw [HZ0.out]; show w.heap.size < _; omega)).trans hP0
        have hT3 : Blk W3 (w.heap.size + 2) 53 zTxK := (hB03.block (w.heap.size + 2) (by rw [HZ0.out]; omega)).trans hT0
        have hI3 : Blk W3 (w.heap.size + 3) 3 #[.int .i64 0] := (hB03.block (w.heap.size + 3) (by rw [HZ0.out]; omega)).trans hI0
        have hle0 := hB01.size
        have hcb3 : cb < w.heap.size := HCB.out
        have z1 : wrap64 ((m.L.length : Int) - (i : Int)) = (m.L.length : Int) - (i : Int) := IntWalk.wrap64_in _ ⟨by omega, by omega⟩
        have z2 : IntKind.i64.wrap ((m.L.length : Int) - (i : Int)) = (m.L.length : Int) - (i : Int) := IntWalk.i64_in _ ⟨by omega, by omega⟩
        have HB9 : Hid (∀ W4, Ch [w.heap.size + 2, w.heap.size + 3] W3 W4 → Blk W4 B9 53 y.cs) := Lib.hid (fun W4 hc => b93.ch hc (by have := HZ0.out; simp; omega))
        have HP0 : Hid (∀ W4, Ch [w.heap.size + 2, w.heap.size + 3] W3 W4 → W4.cell? ⟨w.heap.size, 0, none⟩ = some (.pointer (some ⟨cb, 0, none⟩))) := Lib.hid (fun W4 hc => (ch_cell hc (p := ⟨w.heap.size, 0, none⟩) (by have := HZ0.out; have := hB03.size; show w.heap.size < _; omega) (by simp)).trans p0)
        have HSL : Hid (∀ W4, Ch [w.heap.size + 2, w.heap.size + 3] W3 W4 → W4.cell? ⟨cb, 1, none⟩ = some (.slice m.A m.L.length m.c)) := Lib.hid (fun W4 hc => (ch_cell hc (p := ⟨cb, 1, none⟩) (Nat.lt_of_lt_of_le hcb3 hwW3.size) (by simp; omega)).trans (hcn.hd.cell 1))
        have HI6 : Hid (∀ W4, Ch [w.heap.size + 2, w.heap.size + 3] W3 W4 → W4.cell? ⟨B6, 0, none⟩ = some (.int .i64 (i : Int))) := Lib.hid (fun W4 hc => (b63.ch hc (by have := HZ0.out; simp; omega)).cell 0)
        have HNZ := Lib.hid ((hlm.mem.bel hwW3).txs y hym)
        have HTY := Lib.hid (HTX.out x hxm y hym)
        have HK3 : Hid (∀ W4, Ch [w.heap.size + 2, w.heap.size + 3] W3 W4 → KeepsFrom W1.heap.size W2 W4 ∧ KeepsFrom W0.heap.size W W4) := Lib.hid (fun W4 hc => ⟨(keeps_below hb3).trans (keeps_ch hc (by have := HZ0.out; intro b hb; simp at hb; omega)), (keeps_below ((hb1.trans (hB2.mono hb1.size)).trans (hb3.mono (Nat.le_trans hb1.size hB2.size)))).trans (keeps_ch hc (by have := HZ0.out; intro b hb; simp at hb; omega))⟩)
        have HWX : Hid (∀ W4, Ch [w.heap.size + 2, w.heap.size + 3] W3 W4 → Below w.heap.size w W4) := Lib.hid (fun W4 hc => hwW3.trans (hc.below hwW3.size (by intro b hb; simp at hb; omega)))
        have HT3 := Lib.hid hT3
        have HI3 := Lib.hid hI3
        clear b93 b63 p0 hcn hT3 hI3 b9 hwW3 hbm
        gi_wp2_with fail
        refine (show Code.wpIn (Fence.wide.inRound l2) _ _ _ _ _ _ from region_round_held (S := fun W4 => Hid (Ch [w.heap.size + 2, w.heap.size + 3] W3 W4)) (by rintro ⟨a, w', h⟩; exact h) (by kernel_rfl) (by kernel_rfl) (Lib.hid (Ch.of_below (Below.refl _ _).drew _)) (fun hS0 => ?_))
        refine wpAnyH_genT fun X hX => ?_
        have hS : Hid (Ch [w.heap.size + 2, w.heap.size + 3] W3 X) := Lib.hid (by rw [hX]; exact Ch.of_below (Below.refl _ _).drew _)
        have HBX : Hid (Below W3.heap.size W3 X) := Lib.hid (by rw [hX]; exact (Below.refl _ _).drew)
        clear hX hS0
        refine wpAnyH_take (i := 0) (v := .agg y.cs) rfl (by kernel_rfl) (by kernel_rfl) (by kernel_rfl) (fun _ _ _ h => h) (yields_blk (by rfl) 53 (.tmp 9) (by rfl) B9 0 6 (t := 53) (cs := y.cs) (fun W h => HB9.out W h.out) y.cs (by go_simp) (txn_ext y) Tryz.underlying53 infoTx (Nat.le_refl 6)) hS ?_
        refine wpAnyH_take (i := 2) (v := ?_) rfl (by kernel_rfl) (by kernel_rfl) (by kernel_rfl) (fun _ _ _ h => h) (Or.inl ⟨by rfl, ?_⟩) hS ?_
        rotate_left
        · (intro w hS'; have hcell := (HP0.out _ (Hid.out hS')); go_simp; try with_reducible rfl)
        refine wpAnyH_take (i := 3) (v := ?_) rfl (by kernel_rfl) (by kernel_rfl) (by kernel_rfl) (fun _ _ _ h => h) (Or.inl ⟨by rfl, ?_⟩) hS ?_
        rotate_left
        · (intro w _; go_simp; try with_reducible rfl)
        refine wpAnyH_take (i := 4) (v := ?_) rfl (by kernel_rfl) (by kernel_rfl) (by kernel_rfl) (fun _ _ _ h => h) (Or.inl ⟨by rfl, ?_⟩) hS ?_
        rotate_left
        · (intro w _; go_simp; try with_reducible rfl)
        refine wpAnyH_take (i := 5) (v := ?_) rfl (by kernel_rfl) (by kernel_rfl) (by kernel_rfl) (fun _ _ _ h => h) (Or.inl ⟨by rfl, ?_⟩) hS ?_
        rotate_left
        · (intro w hS'; have hcell := (HSL.out _ (Hid.out hS')); go_simp; try with_reducible rfl)
        refine wpAnyH_take (i := 6) (v := ?_) rfl (by kernel_rfl) (by kernel_rfl) (by kernel_rfl) (fun _ _ _ h => h) (Or.inl ⟨by rfl, ?_⟩) hS ?_
        rotate_left
        · (intro w _; go_simp; try with_reducible rfl)
        refine wpAnyH_take (i := 7) (v := ?_) rfl (by kernel_rfl) (by kernel_rfl) (by kernel_rfl) (fun _ _ _ h => h) (Or.inl ⟨by rfl, ?_⟩) hS ?_
        rotate_left
        · (intro w hS'; have hcell := (HI6.out _ (Hid.out hS')); go_simp; try with_reducible rfl)
        refine wpAnyH_take (i := 8) (v := ?_) rfl (by kernel_rfl) (by kernel_rfl) (by kernel_rfl) (fun _ _ _ h => h) (Or.inl ⟨by rfl, ?_⟩) hS ?_
        rotate_left
        · (intro w _; go_simp; try with_reducible rfl)
        refine wpAnyH_ready (rs := [1]) (by kernel_rfl) (by simp) (AllReadyH.cons rfl (fun K hK => ?_) AllReadyH.nil)
        go_simp
        refine (copy_any y X (HNZ.out.1.bel HBX.out) HNZ.out.2 HTY.out.ins HTY.out.outs HTY.out.pf.len).mono ?_
        rintro e X2 ⟨u, rfl, _, _, hb⟩
        have hS2 : Hid (Ch [w.heap.size + 2, w.heap.size + 3] W3 X2) := Lib.hid (hS.out.trans (Ch.of_below hb _))
        have HT4 := Lib.hid ((HT3.out.bel HBX.out).bel hb)
        have HI4 := Lib.hid ((HI3.out.bel HBX.out).bel hb)
        clear hb
        go_simp
        refine hK.out _ _ hS2 (fun _ => ?_)
        clear hK K
        refine wpAnyH_ready (rs := [9]) (by kernel_rfl) (by simp) (AllReadyH.cons rfl (fun K hK => ?_) AllReadyH.nil)
        refine step_store_part (by rfl) 53 (.tmp 4) (.tmp 27) (by rfl) (w.heap.size + 1 + 1) 0 HT4.out u.cs u.cs (by go_simp) (by go_simp) (Nat.le_refl 6) infoTx (txncs_one u) (txn_over u rfl) ?_
        intro X3 hz3 hz4
        have hS3 : Hid (Ch [w.heap.size + 2, w.heap.size + 3] W3 X3) := Lib.hid (hS2.out.trans (hz4.mono (by intro b hb; simp at hb; left; simp; omega)))
        have HT5 := Lib.hid hz3
        have HI5 := Lib.hid (HI4.out.ch hz4 (by simp))
        clear hz3 hz4
        refine hK.out _ _ hS3 (fun _ => ?_)
        clear hK K
        have q0 : X3.cell? ⟨w.heap.size + 1 + 1 + 1, 0, none⟩ = some (.int .i64 0) := HI5.out.cell 0
        have r0 : X3.frozen? ⟨w.heap.size + 1 + 1 + 1, 0, none⟩ = false := HI5.out.frozen 0
        refine wpAnyH_ready (rs := [10]) (by kernel_rfl) (by simp) (AllReadyH.cons rfl (fun K hK => ?_) AllReadyH.nil)
        go_simp
        have hS4 : Hid (Ch [w.heap.size + 2, w.heap.size + 3] W3 (X3.setCell ⟨w.heap.size + 1 + 1 + 1, 0, none⟩ (.int .i64 ((m.L.length : Int) - (i : Int))))) := Lib.hid (hS3.out.trans (Ch.set_ (by simp) _ _ _))
        refine hK.out _ _ hS4 (fun _ => ?_)
        clear hK K
        refine wpAnyH_done (by kernel_rfl) ?_ _
        try go_simp
        gi_wp2_with fail
        exact ⟨(HK3.out _ hS4.out).1, ⟨rfl, u, HT5.out.far (p := ⟨w.heap.size + 1 + 1 + 1, 0, none⟩) (by simp) _, HI5.out.set_ 0 _, HWX.out _ hS4.out⟩, (HK3.out _ hS4.out).2⟩
    case done2 =>
      rintro xs W2 hS2 ⟨hB2, hN2⟩
      gi_wp2_with fail
      have hb02 : Below W.heap.size W W2 := hb1.trans (hB2.mono hb1.size)
      exact ⟨keeps_below hb02, hb02.mono hB.size, hB.trans (hb02.mono hB.size), fun z hz => by
        rcases List.mem_append.1 hz with hz | hz
        · exact hN z hz
        · rw [List.mem_singleton.1 hz]
          intro t ht
          obtain ⟨kt, hkt, e⟩ := List.getElem_of_mem ht
          obtain ⟨z2, hz2, e2⟩ := all_met hS2 (List.getElem?_eq_getElem hkt)
          have := hN2 z2 hz2
          rw [e2] at this
          rw [← e]; exact this⟩
    case stop2 =>
      rintro c pre2 W2 hS2 ⟨⟨rfl, hE⟩, hK2⟩
      gi_wp2_with fail
      exact ⟨hK2, rfl, pre, ⟨(i, x), hix⟩, rfl, hN, hE⟩
  case stop =>
    rintro D c pre W hD hSp ⟨rfl, pre0, y, rfl, hN, u, hT, hI, hB⟩ hK
    have hk1 : ∀ (k : Nat) x, m.L[k]? = some x → (∃ t ∈ x.b.txs, q t = true) → 1 ≤ (m.L.length : Int) - (y.val.1 : Int) ∧ (m.L.length : Int) - (y.val.1 : Int) ≤ (m.L.length : Int) - k := by
      intro k x hx ⟨t, ht, hq⟩
      have hy : y.val.1 < m.L.length := (List.getElem?_eq_some_iff.1 y.property).1
      refine ⟨by omega, ?_⟩
      by_cases hky : y.val.1 < k
      · obtain ⟨z, hz, e⟩ := ahead_met hSp hx hky
        have := hN z hz t (by rw [e]; exact ht)
        rw [hq] at this; cases this
      · omega
    have HK1 := Lib.hid hk1
    have v0 : W.cell? ⟨w.heap.size + 1 + 1 + 1, 0, none⟩ = some (.int .i64 ((m.L.length : Int) - (y.val.1 : Int))) := hI.cell 0
    have hlt : w.heap.size + 5 ≤ D := by rw [← HZ0.out]; exact hD
    have hb8 : Below w.heap.size w (W.putObj D (.deferred none)) := hB.trans ((Ch.of_grown (grownBy_putObj' _ D _)).below hB.size (by simp; omega))
    have ht8 : Blk (W.putObj D (.deferred none)) (w.heap.size + 2) 53 u.cs := (World.putObj_heap_other (by omega)).trans hT
    have v8 : (W.putObj D (.deferred none)).cell? ⟨w.heap.size + 1 + 1 + 1, 0, none⟩ = some (.int .i64 ((m.L.length : Int) - (y.val.1 : Int))) := Blk.cell (g := w.heap.size + 3) ((World.putObj_heap_other (by omega)).trans hI) 0
    clear hk1 hT0 hI0 hN0 hB0 hP0 hP1
    gi_wp2_with fail
    refine ⟨by simp, .inl ⟨_, _, rfl, run_takeDeferred hK, ?_⟩⟩
    exact ⟨_, results_cells2 (ty2 := 3) rfl _ ht8 rfl Tryz.underlying53 infoTx (a2 := ⟨w.heap.size + 1 + 1 + 1, 0, none⟩) (v := .int .i64 ((m.L.length : Int) - (y.val.1 : Int))) rfl (by simp [go_sem, v8]), u, _, rfl, HK1.out, hb8⟩
  case done =>
    rintro D xs W hD hS ⟨hB, hN⟩ hK
    have hBw : Below w.heap.size w W := hB0.trans (hB.mono hB0.size)
    have HB := Lib.hid hBw
    have HK := Lib.hid hK
    have HT := Lib.hid (show Blk W (w.heap.size + 2) 53 zTxK from (hB.block (w.heap.size + 2) (by rw [HZ0.out]; omega)).trans hT0)
    have HI := Lib.hid (show Blk W (w.heap.size + 3) 3 #[.int .i64 0] from (hB.block (w.heap.size + 3) (by rw [HZ0.out]; omega)).trans hI0)
    have hD2 : w.heap.size + 5 ≤ D := by rw [← HZ0.out]; exact hD
    have HK1 : Hid (∀ (k : Nat) x, m.L[k]? = some x → (∃ t ∈ x.b.txs, q t = true) → 1 ≤ (0 : Int) ∧ (0 : Int) ≤ (m.L.length : Int) - k) := Lib.hid (fun k x hx ⟨t, ht, hq⟩ => by
      obtain ⟨y, hy, e⟩ := all_met hS hx
      have := hN y hy t (by rw [e]; exact ht)
      rw [hq] at this; cases this)
    clear hBw hK hT0 hI0 hN0 hB0 hP0 hP1 hS hN hB
    have t0 : W.cell? ⟨w.heap.size + 1 + 1, 0, none⟩ = some (.slice none 0 0) := HT.out.cell 0
    have z0 : W.frozen? ⟨w.heap.size + 1 + 1, 0, none⟩ = false := HT.out.frozen 0
    have t1 : W.cell? ⟨w.heap.size + 1 + 1, 1, none⟩ = some (.slice none 0 0) := HT.out.cell 1
    have z1 : W.frozen? ⟨w.heap.size + 1 + 1, 1, none⟩ = false := HT.out.frozen 1
    have t2 : W.cell? ⟨w.heap.size + 1 + 1, 2, none⟩ = some (.int .u64 0) := HT.out.cell 2
    have z2 : W.frozen? ⟨w.heap.size + 1 + 1, 2, none⟩ = false := HT.out.frozen 2
    have t3 : W.cell? ⟨w.heap.size + 1 + 1, 3, none⟩ = some (.string ByteArray.empty) := HT.out.cell 3
    have z3 : W.frozen? ⟨w.heap.size + 1 + 1, 3, none⟩ = false := HT.out.frozen 3
    have t4 : W.cell? ⟨w.heap.size + 1 + 1, 4, none⟩ = some (.string ByteArray.empty) := HT.out.cell 4
    have z4 : W.frozen? ⟨w.heap.size + 1 + 1, 4, none⟩ = false := HT.out.frozen 4
    have t5 : W.cell? ⟨w.heap.size + 1 + 1, 5, none⟩ = some (.slice none 0 0) := HT.out.cell 5
    have z5 : W.frozen? ⟨w.heap.size + 1 + 1, 5, none⟩ = false := HT.out.frozen 5
    have t6 : W.cell? ⟨w.heap.size + 1 + 1 + 1, 0, none⟩ = some (.int .i64 0) := HI.out.cell 0
    have z6 : W.frozen? ⟨w.heap.size + 1 + 1 + 1, 0, none⟩ = false := HI.out.frozen 0
    gi_wp2_with fail
    generalize hW7 : World.setCell (World.setCell (World.setCell (World.setCell (World.setCell (World.setCell (World.setCell W ⟨w.heap.size + 1 + 1, 0, none⟩ (.slice none 0 0)) ⟨w.heap.size + 1 + 1, 1, none⟩ (.slice none 0 0)) ⟨w.heap.size + 1 + 1, 2, none⟩ (.int .u64 0)) ⟨w.heap.size + 1 + 1, 3, none⟩ (.string ⟨#[]⟩)) ⟨w.heap.size + 1 + 1, 4, none⟩ (.string ⟨#[]⟩)) ⟨w.heap.size + 1 + 1, 5, none⟩ (.slice none 0 0)) ⟨w.heap.size + 1 + 1 + 1, 0, none⟩ (.int .i64 0) = W7
    have HC7 : Hid (Ch [w.heap.size + 2, w.heap.size + 3] W W7) := Lib.hid (by
      rw [← hW7]
      exact ((((((Ch.set_ (b := w.heap.size + 2) (by simp) _ _ _).trans (Ch.set_ (b := w.heap.size + 2) (by simp) _ _ _)).trans (Ch.set_ (b := w.heap.size + 2) (by simp) _ _ _)).trans (Ch.set_ (b := w.heap.size + 2) (by simp) _ _ _)).trans (Ch.set_ (b := w.heap.size + 2) (by simp) _ _ _)).trans (Ch.set_ (b := w.heap.size + 2) (by simp) _ _ _)).trans (Ch.set_ (b := w.heap.size + 3) (by simp) _ _ _))
    have HT7 : Hid (Blk W7 (w.heap.size + 2) 53 zTxK) := Lib.hid (by
      rw [← hW7]
      exact ((((((HT.out.set_ 0 (.slice none 0 0)).set_ 1 (.slice none 0 0)).set_ 2 (.int .u64 0)).set_ 3 (.string ByteArray.empty)).set_ 4 (.string ByteArray.empty)).set_ 5 (.slice none 0 0)).far (p := ⟨w.heap.size + 1 + 1 + 1, 0, none⟩) (by simp) _)
    have HI7 : Hid (Blk W7 (w.heap.size + 3) 3 #[.int .i64 0]) := Lib.hid (by
      rw [← hW7]
      exact ((((((HI.out.far (p := ⟨w.heap.size + 1 + 1, 0, none⟩) (by simp) _).far (p := ⟨w.heap.size + 1 + 1, 1, none⟩) (by simp) _).far (p := ⟨w.heap.size + 1 + 1, 2, none⟩) (by simp) _).far (p := ⟨w.heap.size + 1 + 1, 3, none⟩) (by simp) _).far (p := ⟨w.heap.size + 1 + 1, 4, none⟩) (by simp) _).far (p := ⟨w.heap.size + 1 + 1, 5, none⟩) (by simp) _).set_ 0 (.int .i64 0))
    have hk7 : W7.heap[D]? = some (.deferred (some [])) := (HC7.out.block D (Array.getElem?_eq_some_iff.1 HK.out).1 (by simp; omega)).trans HK.out
    have hb7 : Below w.heap.size w W7 := HB.out.trans (HC7.out.below HB.out.size (by simp))
    have hb8 : Below w.heap.size w (W7.putObj D (.deferred none)) := hb7.trans ((Ch.of_grown (grownBy_putObj' _ D _)).below hb7.size (by simp; omega))
    have ht8 : Blk (W7.putObj D (.deferred none)) (w.heap.size + 2) 53 zTxK := (World.putObj_heap_other (by omega)).trans HT7.out
    have v0 : (W7.putObj D (.deferred none)).cell? ⟨w.heap.size + 1 + 1 + 1, 0, none⟩ = some (.int .i64 0) := Blk.cell (g := w.heap.size + 3) ((World.putObj_heap_other (by omega)).trans HI7.out) 0
    clear hW7
    refine ⟨by simp, .inl ⟨_, _, rfl, run_takeDeferred hk7, ?_⟩⟩
    exact ⟨_, results_cells2 (ty2 := 3) rfl _ ht8 rfl Tryz.underlying53 infoTx (a2 := ⟨w.heap.size + 1 + 1 + 1, 0, none⟩) (v := .int .i64 0) rfl (by simp [go_sem, v0]), (⟨none, [], 0, none, [], 0, ⟨0, ByteArray.empty, ByteArray.empty, none, [], 0⟩⟩ : Txn), 0, rfl, HK1.out, hb8⟩
end
end Go.Proofs.YtjcinncphffgaaaGreat
