/- utxo: Pays: the outputs of a claim of so much of all. utxo: Pays of two outputs. note.Same with no proof; what a claim pays. slices.Equal of outputs; one list of them. -/
import Derived.Outline
import Derived.Laws.StructEq
import Derived.Test.YtjcinncphffgaaaGreatMjClmA
import Derived.Test.YtjcinncphffgaaaGreatMjG15
import Derived.Test.YtjcinncphffgaaaGreatMjG26
import Derived.Test.YtjcinncphffgaaaGreatMjNum
set_option linter.unusedVariables false
set_option linter.unusedSimpArgs false
namespace Go.Proofs.YtjcinncphffgaaaGreat
open Go.RowKit Go.Maps
theorem pays_low (e : En) (v n : Nat) (w : World) (h : v ≤ 10 ∨ n < v) :
    Calls Tryz.prog 126 #[.agg e.cs, .int .u64 (v : Nat), .int .u64 (n : Nat)] w fun e' w' => e' = .returned (.tuple #[.slice none 0 0, .int .i64 11]) ∧ Below w.heap.size w w' := by
  by_cases h1 : v ≤ 10
  · have d1 : decide ((v : Int) ≤ 10) = true := decide_eq_true (by omega)
    clear h h1
    go_enter Tryz.func126, Tryz.ntmps126
    go_wp2
    go_ret2
    exact ⟨rfl, (Below.refl _ _).alloc (Nat.le_refl _) _⟩
  · have d1 : decide ((v : Int) ≤ 10) = false := decide_eq_false (by omega)
    have d2 : decide (n < v) = true := decide_eq_true (by omega)
    have d3 : decide ((n : Int) < (v : Int)) = true := decide_eq_true (by omega)
    clear h h1
    go_enter Tryz.func126, Tryz.ntmps126
    go_wp2
    go_ret2
    exact ⟨rfl, (Below.refl _ _).alloc (Nat.le_refl _) _⟩
def payO (am : Nat) (key : ByteArray) : Ou := ⟨1, am, key, ByteArray.empty, 0, ByteArray.empty, 0, 0, ByteArray.empty⟩
set_option maxRecDepth 100000 in
set_option maxHeartbeats 1000000 in
theorem pays_one (e : En) (v : Nat) (w : World) (h : 10 < v) (h2 : v < 18446744073709551616) :
    Calls Tryz.prog 126 #[.agg e.cs, .int .u64 (v : Nat), .int .u64 (v : Nat)] w fun e' w' => ∃ A c, e' = .returned (.tuple #[.slice A 1 c, .int .i64 0]) ∧ w'.ownsRow w.heap.size 81 9 (.slice A 1 c) 1 (payO (v - 10) e.o.gate).cl ∧ Below w.heap.size w w' := by
  have HX : Hid (Blk (w.alloc (.cells e.cs 89)) w.heap.size 89 e.cs) := Lib.hid (Blk.new _ _ _)
  have d1 : decide ((v : Int) ≤ 10) = false := decide_eq_false (by omega)
  have d2 : decide (v < v) = false := decide_eq_false (by omega)
  have d3 : decide ((v : Int) < (v : Int)) = false := decide_eq_false (by omega)
  have c5 : (w.alloc (.cells e.cs 89)).cell? ⟨w.heap.size, 5, none⟩ = some (.string e.o.gate) := HX.out.cell 5
  have hw : IntKind.u64.wrap ((v : Int) - 10) = ((v - 10 : Nat) : Int) := by rw [show (v : Int) - 10 = ((v - 10 : Nat) : Int) by omega]; exact IntWalk.u64_in _ (by omega)
  clear h h2
  go_enter Tryz.func126, Tryz.ntmps126
  go_wp2
  go_ret2
  exact ⟨_, _, rfl, own_lit (base := w.heap.size) (k := 9) (n := 1) (cs := (payO (v - 10) e.o.gate).cs) (Blk.newAt (by simp)) (by simp) rfl (by decide), ((Below.refl _ _).alloc (Nat.le_refl _) _).alloc (by simp) _⟩
end Go.Proofs.YtjcinncphffgaaaGreat
namespace Go.Proofs.YtjcinncphffgaaaGreat
open Go.RowKit Go.Maps
set_option maxRecDepth 100000 in
set_option maxHeartbeats 1000000 in
theorem pays_two (e : En) (v n : Nat) (w : World) (h : 10 < v) (hn : v < n) (h2 : n < 18446744073709551616) :
    Calls Tryz.prog 126 #[.agg e.cs, .int .u64 (v : Nat), .int .u64 (n : Nat)] w fun e' w' => ∃ A c, e' = .returned (.tuple #[.slice A 2 c, .int .i64 0]) ∧ w'.ownsRow w.heap.size 81 9 (.slice A 2 c) 2 ((payO (v - 10) e.o.gate).cl ++ (payO (n - v) e.o.key).cl) ∧ Below w.heap.size w w' := by
  obtain ⟨i0, hi, hz0, hz1, hz2⟩ := info_parts Tryz.infoOut9
  have Hz0 := Lib.hid hz0
  have HX : Hid (Blk (w.alloc (.cells e.cs 89)) w.heap.size 89 e.cs) := Lib.hid (Blk.new _ _ _)
  have d1 : decide ((v : Int) ≤ 10) = false := decide_eq_false (by omega)
  have d2 : decide (n < v) = false := decide_eq_false (by omega)
  have d3 : decide (v < n) = true := decide_eq_true hn
  have c5 : (w.alloc (.cells e.cs 89)).cell? ⟨w.heap.size, 5, none⟩ = some (.string e.o.gate) := HX.out.cell 5
  have c4 : ∀ o, ((w.alloc (.cells e.cs 89)).alloc o).cell? ⟨w.heap.size, 4, none⟩ = some (.string e.o.key) := fun o => (HX.out.alloc o).cell 4
  have hw : IntKind.u64.wrap ((v : Int) - 10) = ((v - 10 : Nat) : Int) := by rw [show (v : Int) - 10 = ((v - 10 : Nat) : Int) by omega]; exact IntWalk.u64_in _ (by omega)
  have hw2 : IntKind.u64.wrap ((n : Int) - (v : Int)) = ((n - v : Nat) : Int) := by rw [show (n : Int) - (v : Int) = ((n - v : Nat) : Int) by omega]; exact IntWalk.u64_in _ (by omega)
  clear h hn h2 hz0
  go_enter Tryz.func126, Tryz.ntmps126
  go_wp2_with (at_builtin; go_must (refine wpList_append_own _ rfl (.tmp 26) (.tmp 34) _ rfl w.heap.size 81 i0 _ 9 104 Tryz.underlying22 hi Hz0.out hz1 hz2 rfl (by decide) _ 1 (payO (v - 10) e.o.gate).cl rfl ((own_lit (base := w.heap.size) (n := 1) (k := 9) (cs := (payO (v - 10) e.o.gate).cs) (Blk.newAt (by simp)) (by simp) rfl (by decide)).alloc _) ⟨w.heap.size + 2, 0, none⟩ 1 1 (payO (n - v) e.o.key).cl rfl rfl (World.news_of_block (cs := (payO (n - v) e.o.key).cs) (Blk.newAt (by simp))) (one_all (oucs_one _)) (by decide) (by decide) (by simp; omega) ?_); intro v' w3 hown3 hg3 hnil3)
  obtain ⟨A3, c3, rfl⟩ := own_form hown3
  go_wp2
  go_ret2
  exact ⟨A3, c3, rfl, hown3, (((Below.refl _ _).alloc (Nat.le_refl _) _).alloc (by simp) _).alloc (by simp; omega) _ |>.grown hg3 (by simp; omega) (fun j hj => by have : w.heap.size + 1 = j := Option.some.inj hj; omega)⟩
end Go.Proofs.YtjcinncphffgaaaGreat
namespace Go.Proofs.YtjcinncphffgaaaGreat
open Go.RowKit Go.Maps
theorem isE_dec (s : ByteArray) : s.toList.isEmpty = decide (s = ByteArray.empty) := by
  have ge := toList_beq s ByteArray.empty
  rw [← ge, Bool.eq_iff_iff, beq_iff_eq]
  have e0 : ByteArray.empty.toList = [] := by first | rfl | simp | (unfold ByteArray.toList ByteArray.toList.loop; rfl)
  rw [e0]
  cases s.toList <;> simp
def noPf : Pf := ⟨0, ByteArray.empty, ByteArray.empty, none, [], 0⟩
def noneP (p : Pf) : Bool := decide (p.am = 0) && (decide (p.sig = ByteArray.empty) && (decide (p.tok = ByteArray.empty) && decide (p.l.length = 0)))
set_option maxRecDepth 100000 in
set_option maxHeartbeats 2000000 in
theorem same_zero (p : Pf) (w : World) :
    Calls Tryz.prog 25 #[.agg p.cs, .agg noPf.cs] w fun e w' => e = .returned (.bool (noneP p)) ∧ Below w.heap.size w w' := by
  have HX := Lib.hid (Blk.alloc (Blk.new w 51 p.cs) (.cells noPf.cs 51))
  have HY : Hid (Blk ((w.alloc (.cells p.cs 51)).alloc (.cells noPf.cs 51)) (w.heap.size + 1) 51 noPf.cs) := Blk.newAt (by simp)
  have HB0 : Hid (Below w.heap.size w ((w.alloc (.cells p.cs 51)).alloc (.cells noPf.cs 51))) := ((Below.refl _ _).alloc (Nat.le_refl _) _).alloc (by simp) _
  have c0 : ((w.alloc (.cells p.cs 51)).alloc (.cells noPf.cs 51)).cell? ⟨w.heap.size, 0, none⟩ = some (.int .u64 p.am) := HX.out.cell 0
  have c1 : ((w.alloc (.cells p.cs 51)).alloc (.cells noPf.cs 51)).cell? ⟨w.heap.size, 1, none⟩ = some (.string p.sig) := HX.out.cell 1
  have c2 : ((w.alloc (.cells p.cs 51)).alloc (.cells noPf.cs 51)).cell? ⟨w.heap.size, 2, none⟩ = some (.string p.tok) := HX.out.cell 2
  have c3 : ((w.alloc (.cells p.cs 51)).alloc (.cells noPf.cs 51)).cell? ⟨w.heap.size, 3, none⟩ = some (.slice p.A p.l.length p.c) := HX.out.cell 3
  have e0 : ((w.alloc (.cells p.cs 51)).alloc (.cells noPf.cs 51)).cell? ⟨w.heap.size + 1, 0, none⟩ = some (.int .u64 0) := HY.out.cell 0
  have e1 : ((w.alloc (.cells p.cs 51)).alloc (.cells noPf.cs 51)).cell? ⟨w.heap.size + 1, 1, none⟩ = some (.string ByteArray.empty) := HY.out.cell 1
  have e2 : ((w.alloc (.cells p.cs 51)).alloc (.cells noPf.cs 51)).cell? ⟨w.heap.size + 1, 2, none⟩ = some (.string ByteArray.empty) := HY.out.cell 2
  have e3 : ((w.alloc (.cells p.cs 51)).alloc (.cells noPf.cs 51)).cell? ⟨w.heap.size + 1, 3, none⟩ = some (.slice none 0 0) := HY.out.cell 3
  have q1 := isE_dec p.sig
  have q2 := isE_dec p.tok
  have HZ : Hid (noneP p = (decide (p.am = 0) && (decide (p.sig = ByteArray.empty) && (decide (p.tok = ByteArray.empty) && decide (p.l.length = 0))))) := rfl
  generalize noneP p = zb at HZ ⊢
  by_cases h0 : p.am = 0
  rotate_left
  · have d0 : ((p.am : Int) != 0) = true := by simp [bne, beq_eq_false_iff_ne.2 (show (p.am : Int) ≠ 0 by omega)]
    obtain rfl : zb = false := by rw [HZ.out, decide_eq_false h0]; rfl
    clear h0 q1 q2
    go_enter Tryz.func25, Tryz.ntmps25
    go_wp2_with fail
    go_ret
    exact ⟨rfl, HB0.out⟩
  have d0 : ((p.am : Int) != 0) = false := by rw [h0]; rfl
  by_cases h1 : p.sig = ByteArray.empty
  rotate_left
  · obtain rfl : zb = false := by rw [HZ.out, decide_eq_false h1, Bool.false_and, Bool.and_false]
    rw [decide_eq_false h1] at q1
    clear h0 h1 q2
    go_enter Tryz.func25, Tryz.ntmps25
    go_wp2_with fail
    go_ret
    exact ⟨rfl, HB0.out⟩
  rw [decide_eq_true h1] at q1
  by_cases h2 : p.tok = ByteArray.empty
  rotate_left
  · obtain rfl : zb = false := by rw [HZ.out, decide_eq_false h2, Bool.false_and, Bool.and_false, Bool.and_false]
    rw [decide_eq_false h2] at q2
    clear h0 h1 h2
    go_enter Tryz.func25, Tryz.ntmps25
    go_wp2_with fail
    go_ret
    exact ⟨rfl, HB0.out⟩
  rw [decide_eq_true h2] at q2
  by_cases h3 : p.l.length = 0
  rotate_left
  · obtain rfl : zb = false := by rw [HZ.out, decide_eq_false h3, Bool.and_false, Bool.and_false, Bool.and_false]
    have d3 : ((p.l.length : Int) != 0) = true := by simp [bne, beq_eq_false_iff_ne.2 (show (p.l.length : Int) ≠ 0 by omega)]
    clear h0 h1 h2 h3
    go_enter Tryz.func25, Tryz.ntmps25
    go_wp2_with fail
    go_ret
    exact ⟨rfl, HB0.out⟩
  obtain rfl : zb = true := by rw [HZ.out, decide_eq_true h0, decide_eq_true h1, decide_eq_true h2, decide_eq_true h3]; rfl
  have d3 : ((p.l.length : Int) != 0) = false := by rw [h3]; rfl
  have d4 : decide ((0 : Int) < (p.l.length : Int)) = false := decide_eq_false (by omega)
  have d5 : decide (0 < p.l.length) = false := decide_eq_false (by omega)
  have HL := Lib.hid h3
  rw [h3] at c3 d3 d4 d5
  clear h0 h1 h2 h3
  go_enter Tryz.func25, Tryz.ntmps25
  go_wp2_with fail
  go_loopw [37] (fun i wr => i = .int .i64 0 ∧ Hid (Below w.heap.size w wr)) (fun _ _ => 0)
  case atStart => exact ⟨rfl, HB0⟩
  case round =>
    obtain ⟨rfl, HB⟩ := hrel
    go_wp2_with fail
    go_ret
    exact ⟨rfl, HB.out⟩
/-! what a claim pays -/
def paysO (e : En) (v n : Nat) : List Ou := payO (v - 10) e.o.gate :: (if v < n then [payO (n - v) e.o.key] else [])
theorem pays_ok (e : En) (v n : Nat) (w : World) (h : 10 < v) (hn : v ≤ n) (h2 : n < 18446744073709551616) :
    Calls Tryz.prog 126 #[.agg e.cs, .int .u64 (v : Nat), .int .u64 (n : Nat)] w fun e' w' => ∃ A c, e' = .returned (.tuple #[.slice A (paysO e v n).length c, .int .i64 0]) ∧ Sl w' w'.heap.size 9 Ou.cl A (paysO e v n) ∧ Below w.heap.size w w' := by
  unfold paysO
  by_cases q : v < n
  · rw [if_pos q]
    refine (pays_two e v n w h q h2).mono ?_
    rintro e' w' ⟨A, c, rfl, ho, hb⟩
    refine ⟨A, c, rfl, Sl.of_own (base := w.heap.size) (n := 2) (c := c) (e := 81) (fun _ => rfl) (by simpa using ho), hb⟩
  · obtain rfl : v = n := by omega
    rw [if_neg q]
    refine (pays_one e v w h h2).mono ?_
    rintro e' w' ⟨A, c, rfl, ho, hb⟩
    exact ⟨A, c, rfl, Sl.of_own (base := w.heap.size) (n := 1) (c := c) (e := 81) (fun _ => rfl) (by simpa using ho), hb⟩
end Go.Proofs.YtjcinncphffgaaaGreat
namespace Go.Proofs.YtjcinncphffgaaaGreat
open Go.RowKit Go.Maps
def eqOu (a b : Ou) : Bool := decide (a.kind = b.kind) && (decide (a.am = b.am) && (decide (a.key = b.key) && (decide (a.gate = b.gate) && (decide (a.ex = b.ex) && (decide (a.anchor = b.anchor) && (decide (a.unit = b.unit) && (decide (a.tok = b.tok) && decide (a.of_ = b.of_))))))))
theorem eqOu_iff (a b : Ou) : eqOu a b = true ↔ a = b := by
  cases a; cases b
  simp [eqOu]
theorem int_nat_beq (a b : Nat) : ((a : Int) == (b : Int)) = decide (a = b) := by
  rw [Bool.eq_iff_iff, beq_iff_eq, decide_eq_true_eq]; omega
theorem int_beq (a b : Int) : (a == b) = decide (a = b) := by
  rw [Bool.eq_iff_iff, beq_iff_eq, decide_eq_true_eq]
set_option maxRecDepth 100000 in
set_option maxHeartbeats 2000000 in
theorem ouEqIn (W : World) (d : Nat) (a b : Ou) : (Op.equalIn (d + 2) 81 (.agg a.cs) (.agg b.cs)).run Tryz.prog W = .ok (eqOu a b) W := by
  rw [run_equalIn_struct W (d + 1) 81 _ _ (by kernel_rfl) (by kernel_rfl)]
  have u1 := Tryz.underlying3
  have u2 := Tryz.underlying48
  have u3 := Tryz.underlying9
  simp [Program.fieldsOf, Tryz.underlying81, Op.eqFields, go_sem, Ou.cs, toList_beq, int_nat_beq, int_beq]
  unfold eqOu
  by_cases h1 : a.kind = b.kind <;> by_cases h2 : a.am = b.am <;> by_cases h3 : a.key = b.key <;> by_cases h4 : a.gate = b.gate <;> by_cases h5 : a.ex = b.ex <;> simp [h1, h2, h3, h4, h5]
  all_goals first | omega | (by_cases h6 : a.anchor = b.anchor <;> by_cases h7 : a.unit = b.unit <;> by_cases h8 : a.tok = b.tok <;> by_cases h9 : a.of_ = b.of_ <;> simp [h6, h7, h8, h9] <;> omega)
theorem ouNeq (W : World) (a b : Ou) : (binOp .neq 81 (.agg a.cs) (.agg b.cs)).run Tryz.prog W = .ok (.bool (!eqOu a b)) W := by
  rw [run_neq_struct, ouEqIn W 9998]; rfl
theorem ouGuard (W : World) (x y : Operand) (xs ys : Array Value) : (eqGuard .neq 81 x y (.agg xs) (.agg ys)).run Tryz.prog W = .ok () W :=
  run_eqGuard_agg W .neq 81 x y xs ys (by kernel_rfl)
def eqLo : List Ou → List Ou → Bool
  | [], [] => true
  | x :: r, y :: s => eqOu x y && eqLo r s
  | _, _ => false
theorem eqLo_iff : ∀ (l r : List Ou), eqLo l r = true ↔ l = r
  | [], [] => by simp [eqLo]
  | x :: r, y :: s => by rw [eqLo, Bool.and_eq_true, eqOu_iff, eqLo_iff r s]; simp
  | [], y :: s => by simp [eqLo]
  | x :: r, [] => by simp [eqLo]
theorem eqLo_no {l r : List Ou} (h : l ≠ r) : eqLo l r = false := by
  rw [Bool.eq_false_iff]; exact fun e => h ((eqLo_iff l r).1 e)
set_option maxRecDepth 100000 in
set_option maxHeartbeats 1000000 in
theorem equal_ou (A A' : Option Addr) (l r : List Ou) (c c' : Nat) (w : World) (h : Sl w w.heap.size 9 Ou.cl A l) (h' : Sl w w.heap.size 9 Ou.cl A' r) (hl : l.length ≤ 1000000) (hr : r.length ≤ 1000000) :
    Calls Tryz.prog 166 #[.slice A l.length c, .slice A' r.length c'] w fun e w' => e = .returned (.bool (eqLo l r)) ∧ Below w.heap.size w w' := by
  by_cases hlr : l.length = r.length
  rotate_left
  · have d : ((l.length : Int) != (r.length : Int)) = true := by simp [bne, beq_eq_false_iff_ne.2 (show (l.length : Int) ≠ r.length by omega)]
    rw [eqLo_no (fun e => hlr (by rw [e]))]
    clear hlr
    go_enter Tryz.func166, Tryz.ntmps166
    go_wp2_with fail
    go_ret
    exact ⟨rfl, Below.refl _ _⟩
  have HS := Lib.hid h
  have HS' := Lib.hid h'
  have HLR := Lib.hid hlr
  have HE : Hid (∀ k, (hk : k < l.length) → (hk' : k < r.length) → eqOu l[k] r[k] = false → eqLo l r = false) := Lib.hid (fun k hk hk' he => eqLo_no (fun e => by subst e; rw [(eqOu_iff _ _).2 rfl] at he; cases he))
  have HT : Hid (l = r → eqLo l r = true) := Lib.hid (fun e => (eqLo_iff l r).2 e)
  generalize eqLo l r = bb at HE HT ⊢
  rw [← hlr]
  clear h h' hlr
  have d : ((l.length : Int) != (l.length : Int)) = false := by simp
  have kn := ouNeq
  have kg := ouGuard
  go_enter Tryz.func166, Tryz.ntmps166
  go_wp2_with fail
  go_loopw [13] (fun i wr => ∃ k : Nat, k ≤ l.length ∧ i = .int .i64 k ∧ Hid (l.take k = r.take k) ∧ Hid (Below w.heap.size w wr)) (fun i _ => l.length - (intOf i).toNat)
  case atStart => exact ⟨0, Nat.zero_le _, rfl, Lib.hid (by simp), Lib.hid (Below.refl _ _)⟩
  case round =>
    obtain ⟨k, hk, rfl, HK, HB⟩ := hrel
    have hz := HB.out.size
    by_cases hlt : k < l.length
    · have hlt' : k < r.length := by have := HLR.out; omega
      obtain ⟨ab, off, rfl, _, hc⟩ := (HS.out.below HB.out).at_ hlt
      obtain ⟨ab2, off2, rfl, _, hc2⟩ := (HS'.out.below HB.out).at_ hlt'
      have HE1 := Lib.hid (HE.out k hlt hlt')
      have HK1 : Hid (l[k] = r[k] → l.take (k + 1) = r.take (k + 1)) := Lib.hid (fun e => by rw [List.take_succ_eq_append_getElem hlt, List.take_succ_eq_append_getElem hlt', HK.out, e])
      generalize l[k] = x at hc HE1 HK1
      generalize r[k] = y at hc2 HE1 HK1
      have HC1 := Lib.hid hc
      have HC2 := Lib.hid hc2
      have HQ := Lib.hid (eqOu_iff x y)
      clear hc hc2
      have k1 : (k : Int) < l.length := by omega
      go_upto_region 6 with fail
      refine wp_region_quiet_below (by kernel_rfl) (by kernel_rfl) ?_
      repeat (first | go_big_quiet_skip | (go_big_quiet_want; first | ((first
              | (refine quiet_load_row 81 (.tmp 18) rfl ab (off + k * 9) x.cl HC1.out x.cs (by rfl) (Array.toArray_toList ..) Tryz.underlying81 infoOu9 ?_; go_simp)
              | (refine quiet_load_row 81 (.tmp 22) rfl ab2 (off2 + k * 9) y.cl HC2.out y.cs (by rfl) (Array.toArray_toList ..) Tryz.underlying81 infoOu9 ?_; go_simp)); go_big_quiet_on) | (go_big_quiet_op; first | go_big_quiet_on | go_big_quiet_call (fail))))
      refine wpQuiet_nil ?_
      intro U hp
      have hb := bel_regrown hp
      clear hp
      have HB1 := Lib.hid (HB.out.trans (hb.mono hz))
      clear hb
      generalize eqOu x y = q at HE1 HQ ⊢
      cases q with
      | true =>
        have HK2 := Lib.hid (HK1.out (HQ.out.1 rfl))
        go_wp2_with fail
        go_roundw
        case rel => exact ⟨k + 1, by omega, by go_num, HK2, HB1⟩
        case measure => simp [intOf]; omega
      | false =>
        obtain rfl := HE1.out rfl
        go_wp2_with fail
        go_ret
        exact ⟨rfl, HB1.out⟩
    · have hkl : k = l.length := by omega
      obtain rfl : bb = true := HT.out (by have h1 := HK.out; have h2 := HLR.out; rw [hkl, List.take_length, h2, List.take_length] at h1; exact h1)
      go_wp2_with fail
      go_ret
      exact ⟨rfl, HB.out⟩


end Go.Proofs.YtjcinncphffgaaaGreat
