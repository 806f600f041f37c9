/- gate: bare, Right, of a voucher, a token, a ticket. gate: bare, of a ticket; Right. gate: Right, of a voucher, a token, a ticket. gate.Encode of a voucher, a token, a ticket. codec.Reader, where it reads what was written. codec.Reader: what was written ahead of a rest is read, and the rest is left. gate.Decode of what was encoded. gate.Decode of what was encoded. -/
import Derived.Outline
import Derived.BigRegion
import Derived.Laws.StructEq
import Derived.Deep.QuietTactic
import Derived.BigQuiet
import Derived.Deep.RegionHeld3
import Derived.Test.YtgnlakbmibkjgaaGreatMgNote
import Derived.Test.YtgnlakbmibkjgaaGreatMgNum
import Derived.Test.YtgnlakbmibkjgaaGreatMgSdkB
import Derived.Test.YtgnlakbmibkjgaaGreatMgSdkC
set_option linter.unusedVariables false
set_option linter.unusedSimpArgs false
namespace Go.Proofs.YtgnlakbmibkjgaaGreat
open Go.RowKit Go.Maps
theorem then_gen {K : Act → World → Prop} {Q : Exit → Act → World → Prop} {e : Exit} {a : Act} {w : World} (h : ∀ W, W = w → Exit.then K Q e a W) : Exit.then K Q e a w := h w rfl
theorem ext_full (cs : Array Value) (n : Nat) (h : cs.size = n) : cs.extract 0 (0 + n) = cs := by subst h; simp
theorem opP_set13 (kd : Nat) (nm s : ByteArray) (am am' : Nat) : (opP kd nm am s).setIfInBounds 13 (.int .u64 (am' : Int)) = opP kd nm am' s := by simp [opP]
theorem opP_set17 (kd : Nat) (nm s s' : ByteArray) (am : Nat) : (opP kd nm am s).setIfInBounds 17 (.string s') = opP kd nm am s' := by simp [opP]
set_option maxRecDepth 100000 in
set_option maxHeartbeats 1000000 in
theorem bare_v (nm sg : ByteArray) (am : Nat) (w : World) (hs : sg.size ≤ 400) :
    Calls Tryz.prog 120 #[.agg (opP 2 nm am sg)] w fun e w' => e = .returned (.tuple #[.agg (opP 2 nm am sg), .bool true]) ∧ Below w.heap.size w w' := by
  have X := fun o => Lib.hid ((Blk.new w 45 (opP 2 nm am sg)).alloc o)
  have x0 := fun o => (show ((w.alloc (.cells (opP 2 nm am sg) 45)).alloc o).cell? ⟨w.heap.size, 0, none⟩ = some (.int .i64 2) from (X o).out.cell 0)
  have x1 := fun o => (show ((w.alloc (.cells (opP 2 nm am sg) 45)).alloc o).cell? ⟨w.heap.size, 1, none⟩ = some (.string nm) from (X o).out.cell 1)
  have x26 := fun o => (show ((w.alloc (.cells (opP 2 nm am sg) 45)).alloc o).cell? ⟨w.heap.size, 26, none⟩ = some (.int .i64 0) from (X o).out.cell 26)
  have hd : decide ((sg.size : Int) ≤ 400) = true := decide_eq_true (by omega)
  go_enter Tryz.func120, Tryz.ntmps120
  go_wp2_with (first
    | (refine wpList_store_part rfl 45 (.tmp 4) (.tmp 13) rfl (w.heap.size + 2) 0 (cs := opP 0 ByteArray.empty 0 ByteArray.empty) (Blk.newAt (by simp)) (opP 2 nm 0 ByteArray.empty) (opP 2 nm 0 ByteArray.empty) (by rfl) (by rfl) (Nat.le_refl 27) infoOp (opP_one _ _ _ _) (opP_over _ _ _ _ _ _ _ _) ?_; intro W4 hb4 hc4; have HB4 := Lib.hid hb4; have HC4 := Lib.hid hc4; have HX4 := Lib.hid (Blk.ch (((X (.cells (opP 0 ByteArray.empty 0 ByteArray.empty) 45)).out).alloc _) hc4 (by simp)); have u0 : W4.cell? ⟨w.heap.size, 0, none⟩ = some (.int .i64 2) := HX4.out.cell 0; have u2 : W4.cell? ⟨w.heap.size, 2, none⟩ = some (.string ByteArray.empty) := HX4.out.cell 2; have u13 : W4.cell? ⟨w.heap.size, 13, none⟩ = some (.int .u64 am) := HX4.out.cell 13; have u17 : W4.cell? ⟨w.heap.size, 17, none⟩ = some (.string sg) := HX4.out.cell 17; clear hb4 hc4 x0 x1 x26))
  have HR4 : Hid (Blk W4 (w.heap.size + 1) 45 (opP 0 ByteArray.empty 0 ByteArray.empty)) := Blk.ch (Blk.alloc (Blk.newAt (by simp)) _) HC4.out (by simp)
  have y13 : W4.cell? ⟨w.heap.size + 1 + 1, 13, none⟩ = some (.int .u64 0) := HB4.out.cell 13
  have z13 : W4.frozen? ⟨w.heap.size + 1 + 1, 13, none⟩ = false := HB4.out.frozen 13
  have y17 : W4.cell? ⟨w.heap.size + 1 + 1, 17, none⟩ = some (.string ByteArray.empty) := HB4.out.cell 17
  have z17 : W4.frozen? ⟨w.heap.size + 1 + 1, 17, none⟩ = false := HB4.out.frozen 17
  have HW4 : Hid (Below w.heap.size w W4) := ((((Below.refl _ _).alloc (Nat.le_refl _) _).alloc (by simp) _).alloc (by simp <;> omega) _).trans (HC4.out.below (by simp <;> omega) (by simp <;> omega))
  go_region
  all_goals
    refine then_gen fun W5 hW5 => ?_
    have HB5 : Hid (Blk W5 (w.heap.size + 2) 45 (opP 2 nm am sg)) := by
      rw [hW5]
      have hq := ((HB4.out.set_ 13 (.int .u64 (am : Int))).set_ 17 (.string sg)).drewN 1
      rw [opP_set13, opP_set17] at hq
      exact hq
    have HX5 : Hid (Blk W5 w.heap.size 45 (opP 2 nm am sg)) := by
      rw [hW5]
      exact ((HX4.out.far (by simp <;> omega) _).far (by simp <;> omega) _).drewN 1
    have HR5 : Hid (Blk W5 (w.heap.size + 1) 45 (opP 0 ByteArray.empty 0 ByteArray.empty)) := by
      rw [hW5]
      exact ((HR4.out.far (by simp <;> omega) _).far (by simp <;> omega) _).drewN 1
    have HS5 : Hid (Below w.heap.size w W5) := by
      rw [hW5]
      exact ((HW4.out.setCell (by simp <;> omega) _).setCell (by simp <;> omega) _).drew
    have u17 : W5.cell? ⟨w.heap.size, 17, none⟩ = some (.string sg) := HX5.out.cell 17
    clear hW5 u0 u2 u13 y13 z13 y17 z17
    go_wp2_with (first
      | (refine wpList_load_blk rfl 45 (.tmp 4) rfl _ 0 27 HB5.out (opP 2 nm am sg) (by rfl) (ext_full _ 27 rfl) Tryz.underlying45 infoOp (Nat.le_refl 27) ?_)
      | (refine wpList_store_part rfl 45 (.tmp 2) (.tmp 149) rfl _ 0 HR5.out (opP 2 nm am sg) (opP 2 nm am sg) (by rfl) (by rfl) (Nat.le_refl 27) infoOp (opP_one _ _ _ _) (opP_over _ _ _ _ _ _ _ _) ?_; intro W6 hb6 hc6; have HB6 := Lib.hid hb6; have HC6 := Lib.hid hc6; clear hb6 hc6))
    exact bodyPost_ret (results_cell_row2 rfl _ HB6.out rfl Tryz.underlying45 infoOp) rfl ⟨rfl, HS5.out.trans (HC6.out.below HS5.out.size (by simp))⟩
theorem opP_b17 {W : World} {g kd am : Nat} {t : TypeId} {nm s : ByteArray} (h : Blk W g t (opP kd nm am s)) (s' : ByteArray) : Blk (W.setCell ⟨g, 17, none⟩ (.string s')) g t (opP kd nm am s') := by
  have := h.set_ 17 (.string s')
  rwa [opP_set17] at this
set_option maxRecDepth 100000 in
set_option maxHeartbeats 1000000 in
theorem bare_t (nm tk : ByteArray) (w : World) (hs : tk.size ≤ 16) :
    Calls Tryz.prog 120 #[.agg (opP 3 nm 0 tk)] w fun e w' => e = .returned (.tuple #[.agg (opP 3 nm 0 tk), .bool true]) ∧ Below w.heap.size w w' := by
  have X := fun o => Lib.hid ((Blk.new w 45 (opP 3 nm 0 tk)).alloc o)
  have x0 := fun o => (show ((w.alloc (.cells (opP 3 nm 0 tk) 45)).alloc o).cell? ⟨w.heap.size, 0, none⟩ = some (.int .i64 3) from (X o).out.cell 0)
  have x1 := fun o => (show ((w.alloc (.cells (opP 3 nm 0 tk) 45)).alloc o).cell? ⟨w.heap.size, 1, none⟩ = some (.string nm) from (X o).out.cell 1)
  have x26 := fun o => (show ((w.alloc (.cells (opP 3 nm 0 tk) 45)).alloc o).cell? ⟨w.heap.size, 26, none⟩ = some (.int .i64 0) from (X o).out.cell 26)
  have hd : decide ((tk.size : Int) ≤ 16) = true := decide_eq_true (by omega)
  go_enter Tryz.func120, Tryz.ntmps120
  go_wp2_with (first
    | (refine wpList_store_part rfl 45 (.tmp 4) (.tmp 13) rfl (w.heap.size + 2) 0 (cs := opP 0 ByteArray.empty 0 ByteArray.empty) (Blk.newAt (by simp)) (opP 3 nm 0 ByteArray.empty) (opP 3 nm 0 ByteArray.empty) (by rfl) (by rfl) (Nat.le_refl 27) infoOp (opP_one _ _ _ _) (opP_over _ _ _ _ _ _ _ _) ?_; intro W4 hb4 hc4; have HB4 := Lib.hid hb4; have HC4 := Lib.hid hc4; have HX4 := Lib.hid (Blk.ch (((X (.cells (opP 0 ByteArray.empty 0 ByteArray.empty) 45)).out).alloc _) hc4 (by simp)); have u0 : W4.cell? ⟨w.heap.size, 0, none⟩ = some (.int .i64 3) := HX4.out.cell 0; have u2 : W4.cell? ⟨w.heap.size, 2, none⟩ = some (.string ByteArray.empty) := HX4.out.cell 2; have u17 : W4.cell? ⟨w.heap.size, 17, none⟩ = some (.string tk) := HX4.out.cell 17; have y17 : W4.cell? ⟨w.heap.size + 1 + 1, 17, none⟩ = some (.string ByteArray.empty) := HB4.out.cell 17; have z17 : W4.frozen? ⟨w.heap.size + 1 + 1, 17, none⟩ = false := HB4.out.frozen 17; have HR4 := Lib.hid (Blk.ch (Blk.alloc (w := ((w.alloc (.cells (opP 3 nm 0 tk) 45)).alloc (.cells (opP 0 ByteArray.empty 0 ByteArray.empty) 45))) (g := w.heap.size + 1) (t := 45) (cs := opP 0 ByteArray.empty 0 ByteArray.empty) (Blk.newAt (by simp)) _) HC4.out (by simp)); clear hb4 hc4 x0 x1 x26)
    | (refine wpList_load_blk rfl 45 (.tmp 4) rfl _ 0 27 (opP_b17 HB4.out tk) (opP 3 nm 0 tk) (by rfl) (ext_full _ 27 rfl) Tryz.underlying45 infoOp (Nat.le_refl 27) ?_)
    | (refine wpList_store_part rfl 45 (.tmp 2) (.tmp 149) rfl _ 0 (HR4.out.far (by simp <;> omega) _) (opP 3 nm 0 tk) (opP 3 nm 0 tk) (by rfl) (by rfl) (Nat.le_refl 27) infoOp (opP_one _ _ _ _) (opP_over _ _ _ _ _ _ _ _) ?_; intro W6 hb6 hc6; have HB6 := Lib.hid hb6; have HC6 := Lib.hid hc6; clear hb6 hc6))
  have HW4 : Hid (Below w.heap.size w W4) := ((((Below.refl _ _).alloc (Nat.le_refl _) _).alloc (by simp) _).alloc (by simp <;> omega) _).trans (HC4.out.below (by simp <;> omega) (by simp <;> omega))
  have HS5 := Lib.hid (HW4.out.setCell (p := ⟨w.heap.size + 1 + 1, 17, none⟩) (by simp <;> omega) (.string tk))
  exact bodyPost_ret (results_cell_row2 rfl _ HB6.out rfl Tryz.underlying45 infoOp) rfl ⟨rfl, HS5.out.trans (HC6.out.below HS5.out.size (by simp))⟩
end Go.Proofs.YtgnlakbmibkjgaaGreat
namespace Go.Proofs.YtgnlakbmibkjgaaGreat
open Go.RowKit Go.Maps
set_option maxRecDepth 100000 in
set_option maxHeartbeats 1000000 in
theorem bare_k (nm com sg : ByteArray) (ser face wins many cl : Nat) (w : World) (h1 : com.size = 16) (hs : sg.size ≤ 400) :
    Calls Tryz.prog 120 #[.agg (opT nm ⟨nm, ser, face, wins, many, com, cl, sg⟩)] w fun e w' => e = .returned (.tuple #[.agg (opT nm ⟨nm, ser, face, wins, many, com, cl, sg⟩), .bool true]) ∧ Below w.heap.size w w' := by
  obtain ⟨t, ht⟩ : ∃ t : Tk, t = ⟨nm, ser, face, wins, many, com, cl, sg⟩ := ⟨_, rfl⟩
  have t0 : t.ch = nm := by rw [ht]
  have t5 : t.com = com := by rw [ht]
  have t7 : t.sig = sg := by rw [ht]
  rw [← ht]
  have X := fun o => Lib.hid ((Blk.new w 45 (opT nm t)).alloc o)
  have x0 := fun o => (show ((w.alloc (.cells (opT nm t) 45)).alloc o).cell? ⟨w.heap.size, 0, none⟩ = some (.int .i64 5) from (X o).out.cell 0)
  have x1 := fun o => (show ((w.alloc (.cells (opT nm t) 45)).alloc o).cell? ⟨w.heap.size, 1, none⟩ = some (.string nm) from (X o).out.cell 1)
  have x26 := fun o => (show ((w.alloc (.cells (opT nm t) 45)).alloc o).cell? ⟨w.heap.size, 26, none⟩ = some (.int .i64 0) from (X o).out.cell 26)
  have hd : decide ((sg.size : Int) ≤ 400) = true := decide_eq_true (by omega)
  have hd2 : ((com.size : Int) == 16) = true := by rw [h1]; rfl
  have T0 := Lib.hid t0
  have T5 := Lib.hid t5
  have T7 := Lib.hid t7
  clear t0 t5 t7 ht
  go_enter Tryz.func120, Tryz.ntmps120
  go_wp2_with (first
    | (refine wpList_store_part rfl 45 (.tmp 4) (.tmp 13) rfl (w.heap.size + 2) 0 (cs := opP 0 ByteArray.empty 0 ByteArray.empty) (Blk.newAt (by simp)) (opP 5 nm 0 ByteArray.empty) (opP 5 nm 0 ByteArray.empty) (by rfl) (by rfl) (Nat.le_refl 27) infoOp (opP_one _ _ _ _) (opP_over _ _ _ _ _ _ _ _) ?_; intro W4 hb4 hc4; have HB4 := Lib.hid hb4; have HC4 := Lib.hid hc4; have HX4 := Lib.hid (Blk.ch (((X (.cells (opP 0 ByteArray.empty 0 ByteArray.empty) 45)).out).alloc _) hc4 (by simp)); have u0 : W4.cell? ⟨w.heap.size, 0, none⟩ = some (.int .i64 5) := HX4.out.cell 0; have u2 : W4.cell? ⟨w.heap.size, 2, none⟩ = some (.string ByteArray.empty) := HX4.out.cell 2; have HR4 := Lib.hid (Blk.ch (Blk.alloc (w := ((w.alloc (.cells (opT nm t) 45)).alloc (.cells (opP 0 ByteArray.empty 0 ByteArray.empty) 45))) (g := w.heap.size + 1) (t := 45) (cs := opP 0 ByteArray.empty 0 ByteArray.empty) (Blk.newAt (by simp)) _) HC4.out (by simp)); clear hb4 hc4 x0 x1 x26)
    | (refine wpList_load_blk rfl 43 (.tmp 121) rfl _ 18 8 HX4.out (Tk.cs t) (by rfl) (by rfl) Tryz.underlying43 infoTk (by show 26 ≤ 27; omega) ?_)
    | (refine wpList_store_part rfl 43 (.tmp 123) (.tmp 122) rfl _ 18 HB4.out (Tk.cs t) (opT nm t) (by rfl) (by rfl) (by show 26 ≤ 27; omega) infoTk (tkcs_one _) (by simp [Tk.cs, opP, opT, over]) ?_; intro W5 hb5 hc5; have HB5 := Lib.hid hb5; have HC5 := Lib.hid hc5; have HX5 := Lib.hid (Blk.ch HX4.out hc5 (by simp)); have v18 : W5.cell? ⟨w.heap.size, 18, none⟩ = some (.string nm) := by rw [← T0.out]; exact HX5.out.cell 18
       have v1 : W5.cell? ⟨w.heap.size, 1, none⟩ = some (.string nm) := HX5.out.cell 1
       have v23 : W5.cell? ⟨w.heap.size, 23, none⟩ = some (.string com) := by rw [← T5.out]; exact HX5.out.cell 23
       have v25 : W5.cell? ⟨w.heap.size, 25, none⟩ = some (.string sg) := by rw [← T7.out]; exact HX5.out.cell 25
       have HR5 := Lib.hid (Blk.ch HR4.out hc5 (by simp))
       clear hb5 hc5 u0 u2)
    | (refine wpList_load_blk rfl 45 (.tmp 4) rfl _ 0 27 HB5.out (opT nm t) (by rfl) (ext_full _ 27 rfl) Tryz.underlying45 infoOp (Nat.le_refl 27) ?_)
    | (refine wpList_store_part rfl 45 (.tmp 2) (.tmp 149) rfl _ 0 HR5.out (opT nm t) (opT nm t) (by rfl) (by rfl) (Nat.le_refl 27) infoOp (opT_one _ _) (opT_over _ _ _ _ _ _) ?_; intro W6 hb6 hc6; have HB6 := Lib.hid hb6; have HC6 := Lib.hid hc6; clear hb6 hc6))
  have HW4 : Hid (Below w.heap.size w W4) := ((((Below.refl _ _).alloc (Nat.le_refl _) _).alloc (by simp) _).alloc (by simp <;> omega) _).trans (HC4.out.below (by simp <;> omega) (by simp <;> omega))
  have HS5 := Lib.hid (HW4.out.trans (HC5.out.below HW4.out.size (by simp <;> omega)))
  exact bodyPost_ret (results_cell_row2 rfl _ HB6.out rfl Tryz.underlying45 infoOp) rfl ⟨rfl, HS5.out.trans (HC6.out.below HS5.out.size (by simp))⟩
end Go.Proofs.YtgnlakbmibkjgaaGreat
namespace Go.Proofs.YtgnlakbmibkjgaaGreat
open Go.RowKit Go.Maps
theorem wpList_load_blk_g {ops : Array Oper} {rest : List Oper} {o : Oper} {a : Act} {w : World} {Q : Exit → Act → World → Prop} (hw : Region.wanted o (yielded ops a.tmps) = true) (ty : TypeId) (x : Operand) (ho : o.op = .load ty x)
    (g off n : Nat) {t : TypeId} {cs : Array Value} {fs : Array Field} (hb : Blk w g t cs) (part : Array Value) (hx : a.eval x = .pointer (some ⟨g, off, none⟩)) (hp : cs.extract off (off + n) = part)
    (hu : Tryz.prog.underlying ty = some (.struct fs)) (hi : (Tryz.prog.info? ty).map (·.size) = some n) (hn : off + n ≤ cs.size)
    (h : wpList Tryz.prog ops Q rest (a.put o.dst (.agg part)) w) : wpList Tryz.prog ops Q (o :: rest) a w := by
  subst hp
  unfold wpList
  rw [if_pos hw]
  left
  refine wp_load_mid (P := Tryz.prog) ty x ho g off hx (cs.extract off (off + n)).toList _ (World.rangeAt_of_block (w := w) (b := g) (C := cs) (t := t) (fr := (0, 0)) hb off n) hu rfl (by rw [hi]; simp; omega) ?_
  rw [Array.toArray_toList]
  exact h
theorem opEqP (W : World) (kd am : Nat) (nm s : ByteArray) : (binOp .eql 45 (.agg (opP kd nm am s)) (.agg (opP kd nm am s))).run Tryz.prog W = .ok (.bool true) W := by
  unfold opP
  simp [go_sem]
theorem opEqT (W : World) (t : Tk) (nm : ByteArray) : (binOp .eql 45 (.agg (opT nm t)) (.agg (opT nm t))).run Tryz.prog W = .ok (.bool true) W := by
  unfold opT
  simp [go_sem]
theorem opGuard (W : World) (x y : Operand) (xs ys : Array Value) : (eqGuard .eql 45 x y (.agg xs) (.agg ys)).run Tryz.prog W = .ok () W :=
  run_eqGuard_agg W .eql 45 x y xs ys (by kernel_rfl)
set_option maxRecDepth 100000 in
set_option maxHeartbeats 1000000 in
theorem right_v (nm sg : ByteArray) (am : Nat) (w : World) (hn : nm.size = 16) (hs : sg.size ≤ 400) : Calls Tryz.prog 38 #[.agg (opP 2 nm am sg)] w fun e w' => e = .returned (.bool true) ∧ Below w.heap.size w w' := by
  have HBARE := fun W => Lib.hid (bare_v nm sg am W hs)
  have X := Lib.hid (Blk.new w 45 (opP 2 nm am sg))
  have q1 := (fun W => opEqP W 2 am nm sg)
  have q2 := opGuard
  have hd : ((nm.size : Int) == 16) = true := by rw [hn]; rfl
  go_enter Tryz.func38, Tryz.ntmps38
  go_wp2_with (first | (refine wpList_load_blk rfl 45 (.tmp 1) rfl _ 0 27 X.out (opP 2 nm am sg) (by rfl) (ext_full _ 27 rfl) Tryz.underlying45 infoOp (Nat.le_refl 27) ?_))
  refine (HBARE _).out.mono ?_
  rintro e w1 ⟨rfl, hb1⟩
  have X1 := Lib.hid (X.out.bel hb1)
  have HB1 : Hid (Below w.heap.size w w1) := ((Below.refl _ _).alloc (Nat.le_refl _) _).trans (hb1.mono (by simp))
  have hz1 : w.heap.size < w1.heap.size := X1.out.lt
  clear hb1
  go_wp2_with (first
    | (refine wpList_store_part rfl 45 (.tmp 3) (.tmp 8) rfl w1.heap.size 0 (cs := opP 0 ByteArray.empty 0 ByteArray.empty) (Blk.newAt rfl) (opP 2 nm am sg) (opP 2 nm am sg) (by rfl) (by rfl) (Nat.le_refl 27) infoOp (opP_one _ _ _ _) (opP_over _ _ _ _ _ _ _ _) ?_; intro W2 hb2 hc2; have HY2 := Lib.hid hb2; have X2 := Lib.hid (Blk.ch (X1.out.alloc _) hc2 (by simp <;> omega)); have HB2 : Hid (Below w.heap.size w W2) := (HB1.out.alloc (by omega) _).trans (hc2.below (by simp <;> omega) (by simp <;> omega)); have x0 : W2.cell? ⟨w.heap.size, 0, none⟩ = some (.int .i64 2) := X2.out.cell 0; have x1 : W2.cell? ⟨w.heap.size, 1, none⟩ = some (.string nm) := X2.out.cell 1; have x26 : W2.cell? ⟨w.heap.size, 26, none⟩ = some (.int .i64 0) := X2.out.cell 26; clear hb2 hc2)
    | (refine wpList_load_blk_g (by rfl) 45 (.tmp 1) rfl _ 0 27 X2.out (opP 2 nm am sg) (by rfl) (ext_full _ 27 rfl) Tryz.underlying45 infoOp (Nat.le_refl 27) ?_)
    | (refine wpList_load_blk_g (by rfl) 45 (.tmp 3) rfl _ 0 27 HY2.out (opP 2 nm am sg) (by rfl) (ext_full _ 27 rfl) Tryz.underlying45 infoOp (Nat.le_refl 27) ?_))
  go_ret
  exact ⟨rfl, HB2.out⟩
set_option maxRecDepth 100000 in
set_option maxHeartbeats 1000000 in
theorem right_t (nm tk : ByteArray) (w : World) (hn : nm.size = 16) (hs : tk.size ≤ 16) : Calls Tryz.prog 38 #[.agg (opP 3 nm 0 tk)] w fun e w' => e = .returned (.bool true) ∧ Below w.heap.size w w' := by
  have HBARE := fun W => Lib.hid (bare_t nm tk W hs)
  have X := Lib.hid (Blk.new w 45 (opP 3 nm 0 tk))
  have q1 := (fun W => opEqP W 3 0 nm tk)
  have q2 := opGuard
  have hd : ((nm.size : Int) == 16) = true := by rw [hn]; rfl
  go_enter Tryz.func38, Tryz.ntmps38
  go_wp2_with (first | (refine wpList_load_blk rfl 45 (.tmp 1) rfl _ 0 27 X.out (opP 3 nm 0 tk) (by rfl) (ext_full _ 27 rfl) Tryz.underlying45 infoOp (Nat.le_refl 27) ?_))
  refine (HBARE _).out.mono ?_
  rintro e w1 ⟨rfl, hb1⟩
  have X1 := Lib.hid (X.out.bel hb1)
  have HB1 : Hid (Below w.heap.size w w1) := ((Below.refl _ _).alloc (Nat.le_refl _) _).trans (hb1.mono (by simp))
  have hz1 : w.heap.size < w1.heap.size := X1.out.lt
  clear hb1
  go_wp2_with (first
    | (refine wpList_store_part rfl 45 (.tmp 3) (.tmp 8) rfl w1.heap.size 0 (cs := opP 0 ByteArray.empty 0 ByteArray.empty) (Blk.newAt rfl) (opP 3 nm 0 tk) (opP 3 nm 0 tk) (by rfl) (by rfl) (Nat.le_refl 27) infoOp (opP_one _ _ _ _) (opP_over _ _ _ _ _ _ _ _) ?_; intro W2 hb2 hc2; have HY2 := Lib.hid hb2; have X2 := Lib.hid (Blk.ch (X1.out.alloc _) hc2 (by simp <;> omega)); have HB2 : Hid (Below w.heap.size w W2) := (HB1.out.alloc (by omega) _).trans (hc2.below (by simp <;> omega) (by simp <;> omega)); have x0 : W2.cell? ⟨w.heap.size, 0, none⟩ = some (.int .i64 3) := X2.out.cell 0; have x1 : W2.cell? ⟨w.heap.size, 1, none⟩ = some (.string nm) := X2.out.cell 1; have x26 : W2.cell? ⟨w.heap.size, 26, none⟩ = some (.int .i64 0) := X2.out.cell 26; clear hb2 hc2)
    | (refine wpList_load_blk_g (by rfl) 45 (.tmp 1) rfl _ 0 27 X2.out (opP 3 nm 0 tk) (by rfl) (ext_full _ 27 rfl) Tryz.underlying45 infoOp (Nat.le_refl 27) ?_)
    | (refine wpList_load_blk_g (by rfl) 45 (.tmp 3) rfl _ 0 27 HY2.out (opP 3 nm 0 tk) (by rfl) (ext_full _ 27 rfl) Tryz.underlying45 infoOp (Nat.le_refl 27) ?_))
  go_ret
  exact ⟨rfl, HB2.out⟩
set_option maxRecDepth 100000 in
set_option maxHeartbeats 1000000 in
theorem right_k (nm : ByteArray) (t : Tk) (w : World) (hn : nm.size = 16) (h0 : t.ch = nm) (h5 : t.com.size = 16) (hs : t.sig.size ≤ 400) : Calls Tryz.prog 38 #[.agg (opT nm t)] w fun e w' => e = .returned (.bool true) ∧ Below w.heap.size w w' := by
  have HBARE : ∀ W, Hid (Calls Tryz.prog 120 #[.agg (opT nm t)] W fun e w' => e = .returned (.tuple #[.agg (opT nm t), .bool true]) ∧ Below W.heap.size W w') := fun W => by
    obtain ⟨ch, ser, face, wins, many, com, cl, sg⟩ := t
    subst h0
    exact bare_k ch com sg ser face wins many cl W h5 hs
  have X := Lib.hid (Blk.new w 45 (opT nm t))
  have q1 := (fun W => opEqT W t nm)
  have q2 := opGuard
  have hd : ((nm.size : Int) == 16) = true := by rw [hn]; rfl
  go_enter Tryz.func38, Tryz.ntmps38
  go_wp2_with (first | (refine wpList_load_blk rfl 45 (.tmp 1) rfl _ 0 27 X.out (opT nm t) (by rfl) (ext_full _ 27 rfl) Tryz.underlying45 infoOp (Nat.le_refl 27) ?_))
  refine (HBARE _).out.mono ?_
  rintro e w1 ⟨rfl, hb1⟩
  have X1 := Lib.hid (X.out.bel hb1)
  have HB1 : Hid (Below w.heap.size w w1) := ((Below.refl _ _).alloc (Nat.le_refl _) _).trans (hb1.mono (by simp))
  have hz1 : w.heap.size < w1.heap.size := X1.out.lt
  clear hb1
  go_wp2_with (first
    | (refine wpList_store_part rfl 45 (.tmp 3) (.tmp 8) rfl w1.heap.size 0 (cs := opP 0 ByteArray.empty 0 ByteArray.empty) (Blk.newAt rfl) (opT nm t) (opT nm t) (by rfl) (by rfl) (Nat.le_refl 27) infoOp (opT_one _ _) (opT_over _ _ _ _ _ _) ?_; intro W2 hb2 hc2; have HY2 := Lib.hid hb2; have X2 := Lib.hid (Blk.ch (X1.out.alloc _) hc2 (by simp <;> omega)); have HB2 : Hid (Below w.heap.size w W2) := (HB1.out.alloc (by omega) _).trans (hc2.below (by simp <;> omega) (by simp <;> omega)); have x0 : W2.cell? ⟨w.heap.size, 0, none⟩ = some (.int .i64 5) := X2.out.cell 0; have x1 : W2.cell? ⟨w.heap.size, 1, none⟩ = some (.string nm) := X2.out.cell 1; have x26 : W2.cell? ⟨w.heap.size, 26, none⟩ = some (.int .i64 0) := X2.out.cell 26; clear hb2 hc2)
    | (refine wpList_load_blk_g (by rfl) 45 (.tmp 1) rfl _ 0 27 X2.out (opT nm t) (by rfl) (ext_full _ 27 rfl) Tryz.underlying45 infoOp (Nat.le_refl 27) ?_)
    | (refine wpList_load_blk_g (by rfl) 45 (.tmp 3) rfl _ 0 27 HY2.out (opT nm t) (by rfl) (ext_full _ 27 rfl) Tryz.underlying45 infoOp (Nat.le_refl 27) ?_))
  go_ret
  exact ⟨rfl, HB2.out⟩
end Go.Proofs.YtgnlakbmibkjgaaGreat
namespace Go.Proofs.YtgnlakbmibkjgaaGreat
open Go.RowKit Go.Maps
set_option maxRecDepth 100000 in
theorem count0 (w : World) : Calls Tryz.prog 115 #[.int .i64 0] w fun e w' => e = .returned (.int .u64 0) ∧ w = w' := by
  go_enter Tryz.func115, Tryz.ntmps115
  go_wp2_with fail
  refine (of_any 0 w (by omega)).mono ?_
  rintro e w' ⟨rfl, rfl⟩
  go_wp2
  go_ret
  exact ⟨rfl, rfl⟩
def encV (nm : ByteArray) (am : Nat) (sg : ByteArray) : ByteArray := ByteArray.empty ++ strOfNums [2] ++ nm ++ putB 0 ++ putB am ++ blobB sg
def encT (nm tk : ByteArray) : ByteArray := ByteArray.empty ++ strOfNums [3] ++ nm ++ putB 0 ++ blobB tk
def encK (nm : ByteArray) (t : Tk) : ByteArray := numsB (ByteArray.empty ++ strOfNums [5] ++ nm ++ putB 0) [t.ser, t.face, t.wins, t.many] ++ t.com ++ putB t.cl ++ blobB t.sig
set_option maxRecDepth 100000 in
set_option maxHeartbeats 1000000 in
theorem enc_v (nm sg : ByteArray) (am : Nat) (w : World) (hn : nm.size = 16) (hs : sg.size ≤ 400) (ha : am < 18446744073709551616) : Calls Tryz.prog 37 #[.agg (opP 2 nm am sg)] w fun e w' => e = .returned (.string (encV nm am sg)) ∧ Below w.heap.size w w' := by
  have HR := fun W => Lib.hid (right_v nm sg am W hn hs)
  have X := Lib.hid (Blk.new w 45 (opP 2 nm am sg))
  go_enter Tryz.func37, Tryz.ntmps37
  go_wp2_with (first | (refine wpList_load_blk rfl 45 (.tmp 1) rfl _ 0 27 X.out (opP 2 nm am sg) (by rfl) (ext_full _ 27 rfl) Tryz.underlying45 infoOp (Nat.le_refl 27) ?_))
  refine (HR _).out.mono ?_
  rintro e V ⟨rfl, hb⟩
  replace X := Lib.hid (X.out.bel hb)
  have HB : Hid (Below w.heap.size w V) := ((Below.refl _ _).alloc (Nat.le_refl _) _).trans (hb.mono (by simp))
  have hz : w.heap.size < V.heap.size := X.out.lt
  clear hb HR
  have x0 := fun o => (show (V.alloc o).cell? ⟨w.heap.size, 0, none⟩ = some (.int .i64 2) from (X.out.alloc o).cell 0)
  go_wp2_with fail
  replace X := fun o => Lib.hid (X.out.alloc o)
  replace HB := fun o => Lib.hid (HB.out.alloc (Nat.le_of_lt hz) o)
  refine (wbyte_ok V.heap.size ByteArray.empty 2 _ (by decide) (by decide) (by simp) (Blk.new _ _ _)).mono ?_
  rintro e W ⟨rfl, hw, hc⟩
  replace X := Lib.hid (Blk.ch (X _).out hc (by simp <;> omega))
  replace HB := Lib.hid ((HB _).out.trans (hc.below (by simp <;> omega) (by simp <;> omega)))
  have HW := Lib.hid hw
  clear hw hc x0
  have x1 : W.cell? ⟨w.heap.size, 1, none⟩ = some (.string nm) := X.out.cell 1
  go_wp2_with fail
  refine ((whash_ok V.heap.size _ nm _ hn (by (simp [ByteArray.size_append, putB_size, blobB_size, num1_size] <;> omega)) HW.out)).mono ?_
  rintro e W ⟨rfl, hw, hc⟩
  replace X := Lib.hid (Blk.ch X.out hc (by simp <;> omega))
  replace HB := Lib.hid (HB.out.trans (hc.below HB.out.size (by simp <;> omega)))
  replace HW := Lib.hid hw
  clear hw hc
  have x26 : W.cell? ⟨w.heap.size, 26, none⟩ = some (.int .i64 0) := X.out.cell 26
  go_wp2_with fail
  refine (count0 _).mono ?_
  rintro e W2 ⟨rfl, rfl⟩
  go_wp2_with fail
  refine ((wnum_ok V.heap.size _ 0 _ (by omega) (by (simp [ByteArray.size_append, putB_size, blobB_size, num1_size] <;> omega)) HW.out)).mono ?_
  rintro e W ⟨rfl, hw, hc⟩
  replace X := Lib.hid (Blk.ch X.out hc (by simp <;> omega))
  replace HB := Lib.hid (HB.out.trans (hc.below HB.out.size (by simp <;> omega)))
  replace HW := Lib.hid hw
  clear hw hc
  clear x1 x26
  have x0 : W.cell? ⟨w.heap.size, 0, none⟩ = some (.int .i64 2) := X.out.cell 0
  have x13 : W.cell? ⟨w.heap.size, 13, none⟩ = some (.int .u64 am) := X.out.cell 13
  go_wp2_with fail
  refine ((wnum_ok V.heap.size _ am _ ha (by (simp [ByteArray.size_append, putB_size, blobB_size, num1_size] <;> omega)) HW.out)).mono ?_
  rintro e W ⟨rfl, hw, hc⟩
  replace X := Lib.hid (Blk.ch X.out hc (by simp <;> omega))
  replace HB := Lib.hid (HB.out.trans (hc.below HB.out.size (by simp <;> omega)))
  replace HW := Lib.hid hw
  clear hw hc
  clear x13 x0
  have x17 : W.cell? ⟨w.heap.size, 17, none⟩ = some (.string sg) := X.out.cell 17
  go_wp2_with fail
  refine ((wblob_ok V.heap.size _ sg _ (by omega) (by (simp [ByteArray.size_append, putB_size, blobB_size, num1_size] <;> omega)) HW.out)).mono ?_
  rintro e W ⟨rfl, hw, hc⟩
  replace X := Lib.hid (Blk.ch X.out hc (by simp <;> omega))
  replace HB := Lib.hid (HB.out.trans (hc.below HB.out.size (by simp <;> omega)))
  replace HW := Lib.hid hw
  clear hw hc
  go_wp2_with fail
  refine (wtext_ok V.heap.size _ _ HW.out).mono ?_
  rintro e W2 ⟨rfl, rfl⟩
  go_wp2_with fail
  go_ret
  exact ⟨rfl, HB.out⟩
set_option maxRecDepth 100000 in
set_option maxHeartbeats 1000000 in
theorem enc_t (nm tk : ByteArray) (w : World) (hn : nm.size = 16) (hs : tk.size ≤ 16) : Calls Tryz.prog 37 #[.agg (opP 3 nm 0 tk)] w fun e w' => e = .returned (.string (encT nm tk)) ∧ Below w.heap.size w w' := by
  have HR := fun W => Lib.hid (right_t nm tk W hn hs)
  have X := Lib.hid (Blk.new w 45 (opP 3 nm 0 tk))
  go_enter Tryz.func37, Tryz.ntmps37
  go_wp2_with (first | (refine wpList_load_blk rfl 45 (.tmp 1) rfl _ 0 27 X.out (opP 3 nm 0 tk) (by rfl) (ext_full _ 27 rfl) Tryz.underlying45 infoOp (Nat.le_refl 27) ?_))
  refine (HR _).out.mono ?_
  rintro e V ⟨rfl, hb⟩
  replace X := Lib.hid (X.out.bel hb)
  have HB : Hid (Below w.heap.size w V) := ((Below.refl _ _).alloc (Nat.le_refl _) _).trans (hb.mono (by simp))
  have hz : w.heap.size < V.heap.size := X.out.lt
  clear hb HR
  have x0 := fun o => (show (V.alloc o).cell? ⟨w.heap.size, 0, none⟩ = some (.int .i64 3) from (X.out.alloc o).cell 0)
  go_wp2_with fail
  replace X := fun o => Lib.hid (X.out.alloc o)
  replace HB := fun o => Lib.hid (HB.out.alloc (Nat.le_of_lt hz) o)
  refine (wbyte_ok V.heap.size ByteArray.empty 3 _ (by decide) (by decide) (by simp) (Blk.new _ _ _)).mono ?_
  rintro e W ⟨rfl, hw, hc⟩
  replace X := Lib.hid (Blk.ch (X _).out hc (by simp <;> omega))
  replace HB := Lib.hid ((HB _).out.trans (hc.below (by simp <;> omega) (by simp <;> omega)))
  have HW := Lib.hid hw
  clear hw hc x0
  have x1 : W.cell? ⟨w.heap.size, 1, none⟩ = some (.string nm) := X.out.cell 1
  go_wp2_with fail
  refine ((whash_ok V.heap.size _ nm _ hn (by (simp [ByteArray.size_append, putB_size, blobB_size, num1_size] <;> omega)) HW.out)).mono ?_
  rintro e W ⟨rfl, hw, hc⟩
  replace X := Lib.hid (Blk.ch X.out hc (by simp <;> omega))
  replace HB := Lib.hid (HB.out.trans (hc.below HB.out.size (by simp <;> omega)))
  replace HW := Lib.hid hw
  clear hw hc
  have x26 : W.cell? ⟨w.heap.size, 26, none⟩ = some (.int .i64 0) := X.out.cell 26
  go_wp2_with fail
  refine (count0 _).mono ?_
  rintro e W2 ⟨rfl, rfl⟩
  go_wp2_with fail
  refine ((wnum_ok V.heap.size _ 0 _ (by omega) (by (simp [ByteArray.size_append, putB_size, blobB_size, num1_size] <;> omega)) HW.out)).mono ?_
  rintro e W ⟨rfl, hw, hc⟩
  replace X := Lib.hid (Blk.ch X.out hc (by simp <;> omega))
  replace HB := Lib.hid (HB.out.trans (hc.below HB.out.size (by simp <;> omega)))
  replace HW := Lib.hid hw
  clear hw hc
  clear x1 x26
  have x0 : W.cell? ⟨w.heap.size, 0, none⟩ = some (.int .i64 3) := X.out.cell 0
  have x17 : W.cell? ⟨w.heap.size, 17, none⟩ = some (.string tk) := X.out.cell 17
  go_wp2_with fail
  refine ((wblob_ok V.heap.size _ tk _ (by omega) (by (simp [ByteArray.size_append, putB_size, blobB_size, num1_size] <;> omega)) HW.out)).mono ?_
  rintro e W ⟨rfl, hw, hc⟩
  replace X := Lib.hid (Blk.ch X.out hc (by simp <;> omega))
  replace HB := Lib.hid (HB.out.trans (hc.below HB.out.size (by simp <;> omega)))
  replace HW := Lib.hid hw
  clear hw hc
  go_wp2_with fail
  refine (wtext_ok V.heap.size _ _ HW.out).mono ?_
  rintro e W2 ⟨rfl, rfl⟩
  go_wp2_with fail
  go_ret
  exact ⟨rfl, HB.out⟩
set_option maxRecDepth 100000 in
set_option maxHeartbeats 400000 in
theorem gnums_any (b g c : Nat) (l : List Nat) (s : ByteArray) (w : World) (hl : l.length ≤ 1000) (hn : ∀ x ∈ l, x < 18446744073709551616) (hs : s.size ≤ 900000) (h : WrAt w b s) (hg : Blk w g 27 (cN l)) :
    Calls Tryz.prog 118 #[.pointer (some ⟨b, 0, none⟩), .slice (some ⟨g, 0, none⟩) l.length c] w fun e w' => e = .returned (.tuple #[]) ∧ WrAt w' b (numsB s l) ∧ Ch [b] w w' := by
  have hne : g ≠ b := Blk.ne_ hg h (by decide)
  have H := Lib.hid h
  have HG := Lib.hid hg
  clear h hg
  go_enter Tryz.func118, Tryz.ntmps118
  go_wp2
  go_loopw [8] (fun i wr => ∃ k : Nat, k ≤ l.length ∧ i = .int .i64 k ∧ Hid (WrAt wr b (numsB s (l.take k))) ∧ Hid (Ch [b] w wr)) (fun i _ => l.length - (intOf i).toNat)
  case atStart => exact ⟨0, Nat.zero_le _, rfl, H, Ch.refl _ _⟩
  case round =>
    obtain ⟨k, hk, rfl, HW, HC⟩ := hrel
    by_cases hlt : k < l.length
    · have c0 : wr.cell? ⟨g, k, none⟩ = some (.int .u64 (l[k] : Nat)) := by rw [Blk.cell (Blk.ch HG.out HC.out (by simpa using hne)), cN_get _ _ hlt]
      have hx := hn _ (List.getElem_mem hlt)
      have HS := Lib.hid (numsB_snoc s l k hlt)
      have hz := numsB_size (l.take k) s
      rw [List.length_take] at hz
      generalize l[k] = x at c0 hx HS
      go_wp2_with fail
      refine (wnum_ok b _ x _ hx (by omega) HW.out).mono ?_
      rintro e w1 ⟨rfl, h1, k1⟩
      have H1 := Lib.hid h1
      have K1 := Lib.hid k1
      clear h1 k1
      go_wp2
      go_roundw
      case rel => exact ⟨k + 1, by omega, by go_num, HS.out ▸ H1.out, HC.out.trans K1.out⟩
      case measure => simp [intOf]; omega
    · have hkl : k = l.length := by omega
      subst hkl
      rw [List.take_length] at HW
      go_wp2
      go_end0
      exact ⟨rfl, HW.out, HC.out⟩
set_option maxRecDepth 100000 in
set_option maxHeartbeats 1000000 in
theorem enc_k (nm : ByteArray) (t : Tk) (w : World) (hn : nm.size = 16) (h0 : t.ch = nm) (h5 : t.com.size = 16) (hs : t.sig.size ≤ 400) (ht : t.ok) : Calls Tryz.prog 37 #[.agg (opT nm t)] w fun e w' => e = .returned (.string (encK nm t)) ∧ Below w.heap.size w w' := by
  have HR := fun W => Lib.hid (right_k nm t W hn h0 h5 hs)
  obtain ⟨t1, t2, t3, t4, t5, t6, t7⟩ := ht
  have H0 := Lib.hid h0
  clear h0
  have X := Lib.hid (Blk.new w 45 (opT nm t))
  go_enter Tryz.func37, Tryz.ntmps37
  go_wp2_with (first | (refine wpList_load_blk rfl 45 (.tmp 1) rfl _ 0 27 X.out (opT nm t) (by rfl) (ext_full _ 27 rfl) Tryz.underlying45 infoOp (Nat.le_refl 27) ?_))
  refine (HR _).out.mono ?_
  rintro e V ⟨rfl, hb⟩
  replace X := Lib.hid (X.out.bel hb)
  have HB : Hid (Below w.heap.size w V) := ((Below.refl _ _).alloc (Nat.le_refl _) _).trans (hb.mono (by simp))
  have hz : w.heap.size < V.heap.size := X.out.lt
  clear hb HR
  have x0 := fun o => (show (V.alloc o).cell? ⟨w.heap.size, 0, none⟩ = some (.int .i64 5) from (X.out.alloc o).cell 0)
  go_wp2_with fail
  replace X := fun o => Lib.hid (X.out.alloc o)
  replace HB := fun o => Lib.hid (HB.out.alloc (Nat.le_of_lt hz) o)
  refine (wbyte_ok V.heap.size ByteArray.empty 5 _ (by decide) (by decide) (by simp) (Blk.new _ _ _)).mono ?_
  rintro e W ⟨rfl, hw, hc⟩
  replace X := Lib.hid (Blk.ch (X _).out hc (by simp <;> omega))
  replace HB := Lib.hid ((HB _).out.trans (hc.below (by simp <;> omega) (by simp <;> omega)))
  have HW := Lib.hid hw
  clear hw hc x0
  have x1 : W.cell? ⟨w.heap.size, 1, none⟩ = some (.string nm) := X.out.cell 1
  go_wp2_with fail
  refine ((whash_ok V.heap.size _ nm _ hn (by (simp [ByteArray.size_append, putB_size, blobB_size, num1_size] <;> omega)) HW.out)).mono ?_
  rintro e W ⟨rfl, hw, hc⟩
  replace X := Lib.hid (Blk.ch X.out hc (by simp <;> omega))
  replace HB := Lib.hid (HB.out.trans (hc.below HB.out.size (by simp <;> omega)))
  replace HW := Lib.hid hw
  clear hw hc
  have x26 : W.cell? ⟨w.heap.size, 26, none⟩ = some (.int .i64 0) := X.out.cell 26
  go_wp2_with fail
  refine (count0 _).mono ?_
  rintro e W2 ⟨rfl, rfl⟩
  go_wp2_with fail
  refine ((wnum_ok V.heap.size _ 0 _ (by omega) (by (simp [ByteArray.size_append, putB_size, blobB_size, num1_size] <;> omega)) HW.out)).mono ?_
  rintro e W ⟨rfl, hw, hc⟩
  replace X := Lib.hid (Blk.ch X.out hc (by simp <;> omega))
  replace HB := Lib.hid (HB.out.trans (hc.below HB.out.size (by simp <;> omega)))
  replace HW := Lib.hid hw
  clear hw hc
  clear x1 x26
  have x0 : W.cell? ⟨w.heap.size, 0, none⟩ = some (.int .i64 5) := X.out.cell 0
  have x19 : W.cell? ⟨w.heap.size, 19, none⟩ = some (.int .u64 t.ser) := X.out.cell 19
  have x20 : W.cell? ⟨w.heap.size, 20, none⟩ = some (.int .u64 t.face) := X.out.cell 20
  have x21 : W.cell? ⟨w.heap.size, 21, none⟩ = some (.int .u64 t.wins) := X.out.cell 21
  have x22 : W.cell? ⟨w.heap.size, 22, none⟩ = some (.int .u64 t.many) := X.out.cell 22
  go_wp2_with fail
  replace X := fun o => Lib.hid (X.out.alloc o)
  have hzW := HB.out.size
  replace HB := fun o => Lib.hid (HB.out.alloc hzW o)
  have hvw : V.heap.size < W.heap.size := Blk.lt HW.out
  refine (gnums_any V.heap.size W.heap.size 4 [t.ser, t.face, t.wins, t.many] _ _ (by simp) (by simp [t2, t3, t4, t5]) (by (simp [ByteArray.size_append, putB_size, blobB_size, num1_size] <;> omega)) (Blk.alloc HW.out _) (Blk.new _ _ _)).mono ?_
  rintro e W9 ⟨rfl, hw, hc⟩
  replace X := Lib.hid (Blk.ch (X _).out hc (by simp <;> omega))
  replace HB := Lib.hid ((HB _).out.trans (hc.below (by simp <;> omega) (by simp <;> omega)))
  replace HW := Lib.hid hw
  clear hw hc x19 x20 x21 x22 x0
  have x23 : W9.cell? ⟨w.heap.size, 23, none⟩ = some (.string t.com) := X.out.cell 23
  go_wp2_with fail
  refine ((whash_ok V.heap.size _ t.com _ h5 (by rw [numsB_size]; (simp [ByteArray.size_append, putB_size, blobB_size, num1_size] <;> omega)) HW.out)).mono ?_
  rintro e W ⟨rfl, hw, hc⟩
  replace X := Lib.hid (Blk.ch X.out hc (by simp <;> omega))
  replace HB := Lib.hid (HB.out.trans (hc.below HB.out.size (by simp <;> omega)))
  replace HW := Lib.hid hw
  clear hw hc
  have x24 : W.cell? ⟨w.heap.size, 24, none⟩ = some (.int .u64 t.cl) := X.out.cell 24
  go_wp2_with fail
  refine ((wnum_ok V.heap.size _ t.cl _ t7 (by rw [ByteArray.size_append, numsB_size]; (simp [ByteArray.size_append, putB_size, blobB_size, num1_size] <;> omega)) HW.out)).mono ?_
  rintro e W ⟨rfl, hw, hc⟩
  replace X := Lib.hid (Blk.ch X.out hc (by simp <;> omega))
  replace HB := Lib.hid (HB.out.trans (hc.below HB.out.size (by simp <;> omega)))
  replace HW := Lib.hid hw
  clear hw hc
  have x25 : W.cell? ⟨w.heap.size, 25, none⟩ = some (.string t.sig) := X.out.cell 25
  go_wp2_with fail
  refine ((wblob_ok V.heap.size _ t.sig _ (by omega) (by rw [ByteArray.size_append, ByteArray.size_append, numsB_size]; (simp [ByteArray.size_append, putB_size, blobB_size, num1_size] <;> omega)) HW.out)).mono ?_
  rintro e W ⟨rfl, hw, hc⟩
  replace X := Lib.hid (Blk.ch X.out hc (by simp <;> omega))
  replace HB := Lib.hid (HB.out.trans (hc.below HB.out.size (by simp <;> omega)))
  replace HW := Lib.hid hw
  clear hw hc
  go_wp2_with fail
  refine (wtext_ok V.heap.size _ _ HW.out).mono ?_
  rintro e W2 ⟨rfl, rfl⟩
  go_wp2_with fail
  go_ret
  exact ⟨rfl, HB.out⟩
end Go.Proofs.YtgnlakbmibkjgaaGreat
namespace Go.Proofs.YtgnlakbmibkjgaaGreat
open Go.RowKit Go.Maps
def RdAt (w : World) (b : Nat) (s : ByteArray) (e : Int) : Prop := Blk w b 314 #[.string s, .int .i64 e]
def byteI (s : ByteArray) (i : Nat) : Int := ((s.data.toList.getD i 0).toNat : Int)
theorem byteI_bd (s : ByteArray) (i : Nat) : 0 ≤ byteI s i ∧ byteI s i ≤ 255 := by
  unfold byteI
  have := (s.data.toList.getD i 0).toNat_lt
  omega
theorem byteI_at (s : ByteArray) (i : Nat) (h : i < s.size) : byteI s i = (s[i].toNat : Int) := by
  unfold byteI
  rw [List.getD_eq_getElem?_getD, List.getElem?_eq_getElem (by simpa using h)]
  rfl
set_option maxRecDepth 100000 in
set_option maxHeartbeats 400000 in
theorem b1_any (s : ByteArray) (w : World) (h : 0 < s.size) :
    Calls Tryz.prog 195 #[.string s] w fun e w' => e = .returned (.int .i64 (byteI s 0)) ∧ w = w' := by
  have HB := Lib.hid (byteI_at s 0 h)
  go_enter Tryz.func195, Tryz.ntmps195
  have hlt : (s[0].toNat : Int) < 256 := by have := s[0].toNat_lt; omega
  go_wp2_with fail
  go_ret
  exact ⟨ret_int (by rw [HB.out]), rfl⟩
set_option maxRecDepth 100000 in
set_option maxHeartbeats 400000 in
theorem b3_any (s : ByteArray) (w : World) :
    Calls Tryz.prog 283 #[.string s] w fun e w' => e = .returned (.string s) ∧ w = w' := by
  go_enter Tryz.func283, Tryz.ntmps283
  go_wp2_with fail
  go_ret
  exact ⟨rfl, rfl⟩
theorem wrap_small (n : Int) (h0 : 0 ≤ n) (h1 : n ≤ 1000000) : wrap64 n = n := IntWalk.wrap64_in n ⟨by omega, by omega⟩
theorem or_word (a b : UInt8) : bits .or .i64 (wrap64 (wrap64 (a.toNat : Int) * 256)) (wrap64 (b.toNat : Int)) = (a.toNat : Int) * 256 + b.toNat := by
  have ha := a.toNat_lt
  have hb := b.toNat_lt
  rw [wrap_small (a.toNat : Int) (by omega) (by omega), wrap_small (b.toNat : Int) (by omega) (by omega), wrap_small _ (by omega) (by omega)]
  have h : bits .or .i64 ((a.toNat : Int) * 256) (b.toNat : Int) = IntKind.i64.wrap ((BitVec.ofInt 64 ((a.toNat : Int) * 256) ||| BitVec.ofInt 64 (b.toNat : Int)).toNat : Int) := rfl
  have e1 : BitVec.ofInt 64 ((a.toNat : Int) * 256) = BitVec.ofNat 64 (a.toNat * 256) := by
    have : ((a.toNat : Int) * 256) = ((a.toNat * 256 : Nat) : Int) := by omega
    rw [this, BitVec.ofInt_natCast]
  have e2 : BitVec.ofInt 64 (b.toNat : Int) = BitVec.ofNat 64 b.toNat := by rw [BitVec.ofInt_natCast]
  rw [h, e1, e2, BitVec.toNat_or, BitVec.toNat_ofNat, BitVec.toNat_ofNat, Nat.mod_eq_of_lt (by omega), Nat.mod_eq_of_lt (by omega)]
  have e3 : a.toNat * 256 ||| b.toNat = a.toNat * 256 + b.toNat := by
    have := Nat.shiftLeft_add_eq_or_of_lt (i := 8) (b := b.toNat) (by omega) a.toNat
    rw [Nat.shiftLeft_eq, show (2 : Nat) ^ 8 = 256 from rfl] at this
    omega
  rw [e3, IntKind.wrap_i64]
  omega
set_option maxRecDepth 100000 in
set_option maxHeartbeats 400000 in
theorem b2_any (s : ByteArray) (w : World) (h : 2 ≤ s.size) :
    Calls Tryz.prog 282 #[.string s] w fun e w' => e = .returned (.int .i64 (byteI s 0 * 256 + byteI s 1)) ∧ ∃ n, w' = w.drewN n := by
  have HB := Lib.hid (byteI_at s 0 (by omega))
  have HB1 := Lib.hid (byteI_at s 1 (by omega))
  have h0 : 0 < s.size := by omega
  have h1 : 1 < s.size := by omega
  have h2 : (1 : Int) < (s.size : Int) := by omega
  go_enter Tryz.func282, Tryz.ntmps282
  go_wp2_with fail
  go_quiet (fail)
  go_wp2_with fail
  go_ret
  exact ⟨ret_int (by rw [or_word, HB.out, HB1.out]), nq, rfl⟩
set_option maxRecDepth 100000 in
set_option maxHeartbeats 400000 in
theorem fail_any (b : Nat) (s : ByteArray) (e er : Int) (w : World) (h : RdAt w b s e) :
    Calls Tryz.prog 281 #[.pointer (some ⟨b, 0, none⟩), .int .i64 er] w fun ee w' => ee = .returned (.tuple #[]) ∧ RdAt w' b s (if e = 0 then er else e) ∧ Ch [b] w w' := by
  have c1 : w.cell? ⟨b, 1, none⟩ = some (.int .i64 e) := Blk.cell h 1
  have f1 : w.frozen? ⟨b, 1, none⟩ = false := Blk.frozen h 1
  have H := Lib.hid h
  clear h
  by_cases he : e = 0
  · subst he
    go_enter Tryz.func281, Tryz.ntmps281
    go_wp2
    go_end0
    exact ⟨rfl, Blk.set_ H.out 1 _, Ch.set_ (by simp) _ _ _⟩
  · have hb : (e == 0) = false := beq_eq_false_iff_ne.2 he
    rw [if_neg he]
    clear he
    go_enter Tryz.func281, Tryz.ntmps281
    go_wp2
    go_end0
    exact ⟨rfl, H.out, Ch.refl _ _⟩
set_option maxRecDepth 100000 in
set_option maxHeartbeats 400000 in
theorem take1_ok (b : Nat) (s : ByteArray) (w : World) (hs : s.size ≤ maxLen) (h1 : 0 < s.size) (h : RdAt w b s 0) :
    Calls Tryz.prog 194 #[.pointer (some ⟨b, 0, none⟩), .int .i64 1, .func (.func 195) #[] #[]] w fun ee w' => ee = .returned (.int .i64 (byteI s 0)) ∧ RdAt w' b (s.extract 1 s.size) 0 ∧ Ch [b] w w' := by
  have c0 : w.cell? ⟨b, 0, none⟩ = some (.string s) := Blk.cell h 0
  have c1 : w.cell? ⟨b, 1, none⟩ = some (.int .i64 0) := Blk.cell h 1
  have f0 : w.frozen? ⟨b, 0, none⟩ = false := Blk.frozen h 0
  have H := Lib.hid h
  have HE : Hid (byteI (s.extract 0 1) 0 = byteI s 0) := by
    show _ = _
    unfold byteI
    rw [ByteArray.data_extract, Array.toList_extract, List.extract_eq_take_drop]
    simp [List.getD_eq_getElem?_getD]
  have hz : 0 < (s.extract 0 1).size := by rw [ByteArray.size_extract]; omega
  unfold maxLen at hs
  have hx : ¬ (s.size : Int) < 1 := by omega
  clear h
  go_enter Tryz.func194, Tryz.ntmps194
  go_wp2_with fail
  refine (b1_any (s.extract 0 1) _ hz).mono ?_
  rintro e w' ⟨rfl, rfl⟩
  rw [HE.out]
  go_wp2
  go_ret
  exact ⟨rfl, Blk.set_ H.out 0 _, Ch.set_ (by simp) _ _ _⟩
theorem byteI_ext (s : ByteArray) (n i : Nat) (h : i < n) : byteI (s.extract 0 n) i = byteI s i := by
  unfold byteI
  rw [ByteArray.data_extract, Array.toList_extract, List.extract_eq_take_drop]
  simp [List.getD_eq_getElem?_getD, h]
set_option maxRecDepth 100000 in
set_option maxHeartbeats 400000 in
theorem take2_ok (b : Nat) (s : ByteArray) (w : World) (hs : s.size ≤ maxLen) (h1 : 2 ≤ s.size) (h : RdAt w b s 0) :
    Calls Tryz.prog 194 #[.pointer (some ⟨b, 0, none⟩), .int .i64 2, .func (.func 282) #[] #[]] w fun ee w' => ee = .returned (.int .i64 (byteI s 0 * 256 + byteI s 1)) ∧ RdAt w' b (s.extract 2 s.size) 0 ∧ Ch [b] w w' := by
  have c0 : w.cell? ⟨b, 0, none⟩ = some (.string s) := Blk.cell h 0
  have c1 : w.cell? ⟨b, 1, none⟩ = some (.int .i64 0) := Blk.cell h 1
  have f0 : w.frozen? ⟨b, 0, none⟩ = false := Blk.frozen h 0
  have H := Lib.hid h
  have HE : Hid (byteI (s.extract 0 2) 0 = byteI s 0 ∧ byteI (s.extract 0 2) 1 = byteI s 1) := ⟨byteI_ext s 2 0 (by omega), byteI_ext s 2 1 (by omega)⟩
  have hz : 2 ≤ (s.extract 0 2).size := by rw [ByteArray.size_extract]; omega
  unfold maxLen at hs
  have hx : ¬ (s.size : Int) < 2 := by omega
  clear h
  go_enter Tryz.func194, Tryz.ntmps194
  go_wp2_with fail
  refine (b2_any (s.extract 0 2) _ hz).mono ?_
  rintro e w' ⟨rfl, nq, rfl⟩
  rw [HE.out.1, HE.out.2]
  go_wp2
  go_ret
  exact ⟨rfl, Blk.set_ H.out 0 _, (Ch.set_ (S := [b]) (by simp) w 0 (.string (s.extract 2 s.size))).trans (Ch.drewN _ _ _)⟩
set_option maxRecDepth 100000 in
set_option maxHeartbeats 400000 in
theorem takeS_ok (b : Nat) (s : ByteArray) (n : Nat) (w : World) (hs : s.size ≤ maxLen) (h1 : n ≤ s.size) (h : RdAt w b s 0) :
    Calls Tryz.prog 196 #[.pointer (some ⟨b, 0, none⟩), .int .i64 (n : Int), .func (.func 283) #[] #[]] w fun ee w' => ee = .returned (.string (s.extract 0 n)) ∧ RdAt w' b (s.extract n s.size) 0 ∧ Ch [b] w w' := by
  have c0 : w.cell? ⟨b, 0, none⟩ = some (.string s) := Blk.cell h 0
  have c1 : w.cell? ⟨b, 1, none⟩ = some (.int .i64 0) := Blk.cell h 1
  have f0 : w.frozen? ⟨b, 0, none⟩ = false := Blk.frozen h 0
  have H := Lib.hid h
  have _u : True := (fun _ => trivial) hs
  unfold maxLen at hs
  have hx : ¬ (s.size : Int) < n := by omega
  clear h
  go_enter Tryz.func196, Tryz.ntmps196
  go_wp2_with fail
  refine (b3_any (s.extract 0 n) _).mono ?_
  rintro e w' ⟨rfl, rfl⟩
  go_wp2
  go_ret
  exact ⟨rfl, Blk.set_ H.out 0 _, Ch.set_ (by simp) _ _ _⟩
set_option maxRecDepth 100000 in
set_option maxHeartbeats 400000 in
theorem rByte_ok (b : Nat) (s : ByteArray) (w : World) (hs : s.size ≤ maxLen) (h1 : 0 < s.size) (h : RdAt w b s 0) :
    Calls Tryz.prog 106 #[.pointer (some ⟨b, 0, none⟩)] w fun ee w' => ee = .returned (.int .i64 (byteI s 0)) ∧ RdAt w' b (s.extract 1 s.size) 0 ∧ Ch [b] w w' := by
  go_enter Tryz.func106, Tryz.ntmps106
  go_wp2_with (go_at_call 194; refine (take1_ok b s _ hs h1 h).mono ?_; rintro e w1 ⟨rfl, hr, hc⟩)
  go_ret
  exact ⟨rfl, hr, hc⟩
set_option maxRecDepth 100000 in
set_option maxHeartbeats 400000 in
theorem h1_any (s : ByteArray) (w : World) :
    Calls Tryz.prog 197 #[.string s] w fun e w' => e = .returned (.string s) ∧ w = w' := by
  go_enter Tryz.func197, Tryz.ntmps197
  go_wp2_with fail
  go_ret
  exact ⟨rfl, rfl⟩
set_option maxRecDepth 100000 in
set_option maxHeartbeats 400000 in
theorem takeH_ok (b : Nat) (s : ByteArray) (w : World) (hs : s.size ≤ maxLen) (h1 : 16 ≤ s.size) (h : RdAt w b s 0) :
    Calls Tryz.prog 196 #[.pointer (some ⟨b, 0, none⟩), .int .i64 16, .func (.func 197) #[] #[]] w fun ee w' => ee = .returned (.string (s.extract 0 16)) ∧ RdAt w' b (s.extract 16 s.size) 0 ∧ Ch [b] w w' := by
  have c0 : w.cell? ⟨b, 0, none⟩ = some (.string s) := Blk.cell h 0
  have c1 : w.cell? ⟨b, 1, none⟩ = some (.int .i64 0) := Blk.cell h 1
  have f0 : w.frozen? ⟨b, 0, none⟩ = false := Blk.frozen h 0
  have H := Lib.hid h
  unfold maxLen at hs
  have hx : ¬ (s.size : Int) < 16 := by omega
  clear h
  go_enter Tryz.func196, Tryz.ntmps196
  go_wp2_with fail
  refine (h1_any (s.extract 0 16) _).mono ?_
  rintro e w' ⟨rfl, rfl⟩
  go_wp2
  go_ret
  exact ⟨rfl, Blk.set_ H.out 0 _, Ch.set_ (by simp) _ _ _⟩
theorem or_byte (x y : Int) (h0 : 0 ≤ x) (h1 : x < 72057594037927936) (h2 : 0 ≤ y) (h3 : y < 256) : bits .or .u64 (x * 256) y = x * 256 + y := by
  rw [u64_or _ y (by omega) (by omega) h2 (by omega)]
  have := Nat.shiftLeft_add_eq_or_of_lt (b := y.toNat) (i := 8) (by omega) x.toNat
  rw [Nat.shiftLeft_eq] at this
  rw [show (x * 256).toNat = x.toNat * 2 ^ 8 by omega, ← this]
  omega
def getN (s : ByteArray) : Nat → Nat
  | 0 => 0
  | k + 1 => getN s k * 256 + (byteI s k).toNat
theorem getN_lt (s : ByteArray) : ∀ k, getN s k < 256 ^ k
  | 0 => by simp [getN]
  | k + 1 => by
    have h := getN_lt s k
    have hb := byteI_bd s k
    have hp : 256 ^ (k + 1) = 256 ^ k * 256 := Nat.pow_succ ..
    unfold getN
    omega
set_option maxRecDepth 100000 in
set_option maxHeartbeats 400000 in
theorem get_any (s : ByteArray) (w : World) (h8 : 8 ≤ s.size) :
    Calls Tryz.prog 201 #[.string s] w fun e w' => e = .returned (.tuple #[.int .u64 (getN s 8 : Nat), .int .i64 0]) ∧ w = w' := by
  go_enter Tryz.func201, Tryz.ntmps201
  go_wp2_with fail
  go_loop [4, 9] (fun n i => ∃ k : Nat, k ≤ 8 ∧ i = .int .i64 k ∧ n = .int .u64 (getN s k : Nat)) (fun _ i => 8 - (intOf i).toNat)
  case atStart => exact ⟨0, Nat.zero_le _, rfl, rfl⟩
  case round =>
    obtain ⟨k, hk, rfl, rfl⟩ := hrel
    by_cases hlt : k < 8
    · have hks : k < s.size := by omega
      have hg := getN_lt s k
      have HE := Lib.hid (byteI_at s k hks)
      generalize hG : getN s k = g at hg ⊢
      have HG := Lib.hid hG
      clear hG
      go_wp2_with fail
      go_round
      case rel =>
        have hp : 256 ^ k ≤ 256 ^ 7 := Nat.pow_le_pow_right (by omega) (by omega)
        have hy := s[k].toNat_lt
        have e1 : IntKind.u64.wrap ((g : Int) * 256) = (g : Int) * 256 := IntWalk.u64_in _ (by omega)
        have e2 : IntKind.u64.wrap (s[k].toNat : Int) = (s[k].toNat : Int) := IntWalk.u64_in _ (by omega)
        refine ⟨k + 1, by omega, by go_num, ?_⟩
        rw [e1, e2, or_byte _ _ (by omega) (by omega) (by omega) (by omega)]
        show _ = Value.int .u64 ((getN s k * 256 + (byteI s k).toNat : Nat) : Int)
        rw [HG.out, HE.out]
        simp
      case measure => simp [intOf]; omega
    · have : k = 8 := by omega
      subst this
      go_wp2_with fail
      go_ret2
      exact ⟨rfl, rfl⟩
set_option maxRecDepth 100000 in
set_option maxHeartbeats 400000 in
theorem n1_any (s : ByteArray) (w : World) (h8 : 8 ≤ s.size) :
    Calls Tryz.prog 200 #[.string s] w fun e w' => e = .returned (.int .u64 (getN s 8 : Nat)) ∧ w = w' := by
  have HG := Lib.hid (get_any s w h8)
  generalize getN s 8 = v at HG ⊢
  go_enter Tryz.func200, Tryz.ntmps200
  go_wp2_with fail
  refine HG.out.mono ?_
  rintro e w' ⟨rfl, rfl⟩
  go_wp2_with fail
  go_ret
  exact ⟨rfl, rfl⟩
theorem getN_ext (s : ByteArray) (n : Nat) : ∀ k, k ≤ n → getN (s.extract 0 n) k = getN s k
  | 0, _ => rfl
  | k + 1, h => by rw [getN, getN, getN_ext s n k (by omega), byteI_ext s n k (by omega)]
set_option maxRecDepth 100000 in
set_option maxHeartbeats 400000 in
theorem take8_ok (b : Nat) (s : ByteArray) (w : World) (hs : s.size ≤ maxLen) (h1 : 8 ≤ s.size) (h : RdAt w b s 0) :
    Calls Tryz.prog 199 #[.pointer (some ⟨b, 0, none⟩), .int .i64 8, .func (.func 200) #[] #[]] w fun ee w' => ee = .returned (.int .u64 (getN s 8 : Nat)) ∧ RdAt w' b (s.extract 8 s.size) 0 ∧ Ch [b] w w' := by
  have c0 : w.cell? ⟨b, 0, none⟩ = some (.string s) := Blk.cell h 0
  have c1 : w.cell? ⟨b, 1, none⟩ = some (.int .i64 0) := Blk.cell h 1
  have f0 : w.frozen? ⟨b, 0, none⟩ = false := Blk.frozen h 0
  have H := Lib.hid h
  have HE : Hid (getN (s.extract 0 8) 8 = getN s 8) := getN_ext s 8 8 (by omega)
  have hz : 8 ≤ (s.extract 0 8).size := by rw [ByteArray.size_extract]; omega
  unfold maxLen at hs
  have hx : ¬ (s.size : Int) < 8 := by omega
  clear h
  go_enter Tryz.func199, Tryz.ntmps199
  go_wp2_with fail
  refine (n1_any (s.extract 0 8) _ hz).mono ?_
  rintro e w' ⟨rfl, rfl⟩
  rw [HE.out]
  go_wp2
  go_ret
  exact ⟨rfl, Blk.set_ H.out 0 _, Ch.set_ (by simp) _ _ _⟩
set_option maxRecDepth 100000 in
theorem rNum_ok (b : Nat) (s : ByteArray) (w : World) (hs : s.size ≤ maxLen) (h1 : 8 ≤ s.size) (h : RdAt w b s 0) :
    Calls Tryz.prog 109 #[.pointer (some ⟨b, 0, none⟩)] w fun ee w' => ee = .returned (.int .u64 (getN s 8 : Nat)) ∧ RdAt w' b (s.extract 8 s.size) 0 ∧ Ch [b] w w' := by
  go_enter Tryz.func109, Tryz.ntmps109
  go_wp2_with fail
  refine (take8_ok b s _ hs h1 h).mono ?_
  rintro e w1 ⟨rfl, hr, hc⟩
  go_wp2_with fail
  go_ret
  exact ⟨rfl, hr, hc⟩
set_option maxRecDepth 100000 in
theorem rHash_ok (b : Nat) (s : ByteArray) (w : World) (hs : s.size ≤ maxLen) (h1 : 16 ≤ s.size) (h : RdAt w b s 0) :
    Calls Tryz.prog 107 #[.pointer (some ⟨b, 0, none⟩)] w fun ee w' => ee = .returned (.string (s.extract 0 16)) ∧ RdAt w' b (s.extract 16 s.size) 0 ∧ Ch [b] w w' := by
  go_enter Tryz.func107, Tryz.ntmps107
  go_wp2_with fail
  refine (takeH_ok b s _ hs h1 h).mono ?_
  rintro e w1 ⟨rfl, hr, hc⟩
  go_wp2_with fail
  go_ret
  exact ⟨rfl, hr, hc⟩
end Go.Proofs.YtgnlakbmibkjgaaGreat
namespace Go.Proofs.YtgnlakbmibkjgaaGreat
open Go.RowKit Go.Maps
theorem ba_app (a b : ByteArray) : (a ++ b).data.toList = a.data.toList ++ b.data.toList := by simp
theorem ba_ext_list (a : ByteArray) (i j : Nat) : (a.extract i j).data.toList = (a.data.toList.take j).drop i := by
  rw [ByteArray.data_extract, Array.toList_extract, List.extract_eq_take_drop, List.drop_take]
theorem ba_len (a : ByteArray) : a.data.toList.length = a.size := by simp
theorem byteI_app (a b : ByteArray) (i : Nat) (h : i < a.size) : byteI (a ++ b) i = byteI a i := by
  unfold byteI
  rw [ba_app, List.getD_eq_getElem?_getD, List.getElem?_append_left (by rw [ba_len]; exact h), ← List.getD_eq_getElem?_getD]
theorem byteI_num (z : Int) (zs : List Int) (h0 : 0 ≤ z) (h1 : z ≤ 255) : byteI (strOfNums (z :: zs)) 0 = z := by
  unfold byteI
  rw [strOfNums_data]
  simp only [List.map_cons, List.getD_cons_zero]
  have : (UInt8.ofNat z.toNat).toNat = z.toNat := by
    rw [UInt8.toNat_ofNat']; omega
  omega
theorem byteI_num1 (y z : Int) (zs : List Int) (h0 : 0 ≤ z) (h1 : z ≤ 255) : byteI (strOfNums (y :: z :: zs)) 1 = z := by
  unfold byteI
  rw [strOfNums_data]
  simp only [List.map_cons, List.getD_cons_succ, List.getD_cons_zero]
  have : (UInt8.ofNat z.toNat).toNat = z.toNat := by
    rw [UInt8.toNat_ofNat']; omega
  omega
theorem ext_app_right (a b : ByteArray) : (a ++ b).extract a.size (a ++ b).size = b := by
  refine ba_ext ?_
  rw [ba_ext_list, ba_app, List.take_of_length_le (by rw [List.length_append, ba_len, ba_len, ByteArray.size_append]; exact Nat.le_refl _)]
  exact List.drop_left' (ba_len a)
theorem ext_app_left (a b : ByteArray) : (a ++ b).extract 0 a.size = a := by
  refine ba_ext ?_
  rw [ba_ext_list, ba_app, List.drop_zero]
  exact List.take_left' (ba_len a)
theorem ext_right (a b : ByteArray) (n : Nat) (h : a.size = n) : (a ++ b).extract n (a ++ b).size = b := by subst h; exact ext_app_right a b
theorem ext_left (a b : ByteArray) (n : Nat) (h : a.size = n) : (a ++ b).extract 0 n = a := by subst h; exact ext_app_left a b
theorem byteI_nums (zs : List Int) (i : Nat) (z : Int) (hz : zs[i]? = some z) (h0 : 0 ≤ z) (h1 : z ≤ 255) : byteI (strOfNums zs) i = z := by
  unfold byteI
  rw [strOfNums_data, List.getD_eq_getElem?_getD, List.getElem?_map, hz]
  show ((UInt8.ofNat z.toNat).toNat : Int) = z
  have : (UInt8.ofNat z.toNat).toNat = z.toNat := by
    rw [UInt8.toNat_ofNat']; omega
  omega
theorem getN_app (a b : ByteArray) : ∀ k, k ≤ a.size → getN (a ++ b) k = getN a k
  | 0, _ => rfl
  | k + 1, h => by rw [getN, getN, getN_app a b k (by omega), byteI_app a b k (by omega)]
theorem getN_put (n : Nat) (hn : n < 18446744073709551616) : ∀ k, k ≤ 8 → getN (putB n) k = n / 2 ^ (8 * (8 - k))
  | 0, _ => by rw [Nat.div_eq_of_lt (by simpa using hn)]; rfl
  | k + 1, h => by
    have hb : byteI (putB n) k = n8 n k := byteI_nums _ k _ (by rw [List.getElem?_map, List.getElem?_range (by omega)]; rfl) (by unfold n8; omega) (by unfold n8; omega)
    rw [getN, getN_put n hn k (by omega), hb, n8]
    have e : 8 * (8 - k) = 8 * (7 - k) + 8 := by omega
    rw [e, Nat.pow_add, ← Nat.div_div_eq_div_mul, show 8 * (8 - (k + 1)) = 8 * (7 - k) by omega]
    have := Nat.div_add_mod (n / 2 ^ (8 * (7 - k))) 256
    rw [Int.toNat_natCast]
    omega
variable {w : World} {b : Nat}
theorem rd_byte (n : Nat) (r : ByteArray) (hn : n ≤ 255) (hr : r.size ≤ 1000000) (h : RdAt w b (strOfNums [(n : Int)] ++ r) 0) :
    Calls Tryz.prog 106 #[.pointer (some ⟨b, 0, none⟩)] w fun ee w' => ee = .returned (.int .i64 (n : Int)) ∧ RdAt w' b r 0 ∧ Ch [b] w w' := by
  have hz : (strOfNums [(n : Int)] ++ r).size = 1 + r.size := by rw [ByteArray.size_append, strOfNums_size]; rfl
  have := rByte_ok b _ w (by rw [hz]; unfold maxLen; omega) (by omega) h
  rw [ext_right _ _ 1 (strOfNums_size _), byteI_app _ _ _ (by rw [strOfNums_size]; simp), byteI_num _ _ (by omega) (by omega)] at this
  exact this
theorem rd_num (n : Nat) (r : ByteArray) (hn : n < 18446744073709551616) (hr : r.size ≤ 1000000) (h : RdAt w b (putB n ++ r) 0) :
    Calls Tryz.prog 109 #[.pointer (some ⟨b, 0, none⟩)] w fun ee w' => ee = .returned (.int .u64 (n : Int)) ∧ RdAt w' b r 0 ∧ Ch [b] w w' := by
  have hz : (putB n ++ r).size = 8 + r.size := by rw [ByteArray.size_append, putB_size]
  have := rNum_ok b _ w (by rw [hz]; unfold maxLen; omega) (by omega) h
  rw [ext_right _ _ 8 (putB_size _), getN_app _ _ 8 (by rw [putB_size]; omega), getN_put n hn 8 (by omega)] at this
  simpa using this
theorem rd_hash (t r : ByteArray) (ht : t.size = 16) (hr : r.size ≤ 1000000) (h : RdAt w b (t ++ r) 0) :
    Calls Tryz.prog 107 #[.pointer (some ⟨b, 0, none⟩)] w fun ee w' => ee = .returned (.string t) ∧ RdAt w' b r 0 ∧ Ch [b] w w' := by
  have hz : (t ++ r).size = 16 + r.size := by rw [ByteArray.size_append, ht]
  have := rHash_ok b _ w (by rw [hz]; unfold maxLen; omega) (by omega) h
  rw [ext_right _ _ 16 ht, ext_left _ _ 16 ht] at this
  exact this
set_option maxRecDepth 100000 in
set_option maxHeartbeats 400000 in
theorem rd_blob (t r : ByteArray) (most : Nat) (ht : t.size ≤ most) (ht2 : t.size ≤ 4096) (hm : most ≤ 1000000) (hr : r.size ≤ 1000000) (h : RdAt w b (blobB t ++ r) 0) :
    Calls Tryz.prog 203 #[.pointer (some ⟨b, 0, none⟩), .int .i64 (most : Int)] w fun ee w' => ee = .returned (.string t) ∧ RdAt w' b r 0 ∧ Ch [b] w w' := by
  obtain ⟨s, hs⟩ : ∃ s, s = blobB t ++ r := ⟨_, rfl⟩
  have hz : s.size = 2 + t.size + r.size := by rw [hs, ByteArray.size_append, blobB_size]
  have hb0 : byteI s 0 = (t.size : Int) / 256 := by
    rw [hs, byteI_app _ _ _ (by rw [blobB_size]; omega), blobB, byteI_app _ _ _ (by rw [num2_size]; omega)]
    exact byteI_num _ _ (by omega) (by omega)
  have hb1 : byteI s 1 = (t.size : Int) % 256 := by
    rw [hs, byteI_app _ _ _ (by rw [blobB_size]; omega), blobB, byteI_app _ _ _ (by rw [num2_size]; omega)]
    exact byteI_num1 _ _ _ (by omega) (by omega)
  have hn : byteI s 0 * 256 + byteI s 1 = (t.size : Int) := by rw [hb0, hb1]; omega
  have hx : s.extract 2 s.size = t ++ r := by
    have e : s = strOfNums [(t.size : Int) / 256, (t.size : Int) % 256] ++ (t ++ r) := by
      rw [hs]; unfold blobB; rw [ByteArray.append_assoc]
    rw [e]
    exact ext_right _ _ 2 (num2_size _ _)
  have T2 := Lib.hid (take2_ok b s w (by unfold maxLen; omega) (by omega) (hs ▸ h))
  rw [hn, hx] at T2
  have T3 := fun W hW => Lib.hid (takeS_ok b (t ++ r) t.size W (by rw [ByteArray.size_append]; unfold maxLen; omega) (by rw [ByteArray.size_append]; omega) hW)
  rw [ext_right _ _ _ rfl, ext_left _ _ _ rfl] at T3
  have c0 : w.cell? ⟨b, 0, none⟩ = some (.string s) := by rw [hs]; exact Blk.cell h 0
  have hd : decide ((most : Int) < (t.size : Int)) = false := decide_eq_false (by omega)
  have hd' : decide ((4096 : Int) < (t.size : Int)) = false := decide_eq_false (by omega)
  clear hs hz hb0 hb1 hn hx h
  go_enter Tryz.func203, Tryz.ntmps203
  go_wp2_with fail
  refine T2.out.mono ?_
  rintro e w1 ⟨rfl, h1, k1⟩
  have d1 : w1.cell? ⟨b, 1, none⟩ = some (.int .i64 0) := Blk.cell h1 1
  have H1 := Lib.hid h1
  have K1 := Lib.hid k1
  clear h1 k1 c0
  go_wp2_with fail
  refine (T3 _ H1.out).out.mono ?_
  rintro e w3 ⟨rfl, h3, k3⟩
  have d3 : w3.cell? ⟨b, 1, none⟩ = some (.int .i64 0) := Blk.cell h3 1
  have H3 := Lib.hid h3
  have K3 := Lib.hid k3
  clear h3 k3 d1
  go_wp2_with fail
  go_ret
  exact ⟨rfl, H3.out, K1.out.trans K3.out⟩
set_option maxRecDepth 100000 in
theorem rd_end (h : RdAt w b ByteArray.empty 0) :
    Calls Tryz.prog 111 #[.pointer (some ⟨b, 0, none⟩)] w fun ee w' => ee = .returned (.int .i64 0) ∧ w = w' := by
  have c0 : w.cell? ⟨b, 0, none⟩ = some (.string ByteArray.empty) := Blk.cell h 0
  have c1 : w.cell? ⟨b, 1, none⟩ = some (.int .i64 0) := Blk.cell h 1
  clear h
  go_enter Tryz.func111, Tryz.ntmps111
  go_wp2_with fail
  go_ret
  exact ⟨rfl, rfl⟩
set_option maxRecDepth 100000 in
theorem rd_new (s : ByteArray) (w : World) :
    Calls Tryz.prog 105 #[.string s] w fun ee w' => ∃ b, ee = .returned (.pointer (some ⟨b, 0, none⟩)) ∧ b = w.heap.size ∧ RdAt w' b s 0 ∧ Below w.heap.size w w' := by
  go_enter Tryz.func105, Tryz.ntmps105
  go_wp2_with fail
  go_ret
  exact ⟨_, rfl, rfl, Blk.new _ _ _, (Below.refl _ _).alloc (Nat.le_refl _) _⟩
end Go.Proofs.YtgnlakbmibkjgaaGreat
namespace Go.Proofs.YtgnlakbmibkjgaaGreat
open Go.RowKit Go.Maps
set_option maxRecDepth 100000 in
theorem int0 (w : World) : Calls Tryz.prog 198 #[.int .u64 0] w fun e w' => e = .returned (.tuple #[.int .i64 0, .int .i64 0]) ∧ w = w' := by
  go_enter Tryz.func198, Tryz.ntmps198
  go_wp2
  go_ret2
  exact ⟨rfl, rfl⟩
set_option maxRecDepth 100000 in
theorem small0 (w : World) : Calls Tryz.prog 108 #[.int .u64 0] w fun e w' => e = .returned (.int .i64 0) ∧ w = w' := by
  go_enter Tryz.func108, Tryz.ntmps108
  go_wp2_with fail
  refine (int0 w).mono ?_
  rintro e w' ⟨rfl, rfl⟩
  go_wp2
  go_ret
  exact ⟨rfl, rfl⟩
variable {w : World} {b g : Nat}
set_option maxRecDepth 100000 in
set_option maxHeartbeats 1000000 in
theorem get_v (nm sg : ByteArray) (am : Nat) (ha : am < 18446744073709551616) (hs : sg.size ≤ 400) (hr : RdAt w b (putB am ++ (blobB sg ++ ByteArray.empty)) 0) (hg : Blk w g 45 (opP 2 nm 0 ByteArray.empty)) :
    Calls Tryz.prog 110 #[.pointer (some ⟨b, 0, none⟩), .pointer (some ⟨g, 0, none⟩)] w fun e w' => e = .returned (.tuple #[]) ∧ RdAt w' b ByteArray.empty 0 ∧ Blk w' g 45 (opP 2 nm am sg) ∧ Ch [b, g] w w' := by
  have hbg : b ≠ g := Blk.ne_ hr hg (by decide)
  have hgb : g ≠ b := Ne.symm hbg
  have HR := Lib.hid hr
  have HG := Lib.hid hg
  have HC := Lib.hid (Ch.refl [b, g] w)
  have x0 : w.cell? ⟨g, 0, none⟩ = some (.int .i64 2) := hg.cell 0
  clear hr hg
  go_enter Tryz.func110, Tryz.ntmps110
  go_wp2_with fail
  refine ((rd_num am _ ha (by (simp [ByteArray.size_append, putB_size, blobB_size, num1_size] <;> omega)) HR.out)).mono ?_
  rintro e W ⟨rfl, hr, hc⟩
  replace HR := Lib.hid hr
  replace HG := Lib.hid (Blk.ch HG.out hc (by simpa using hgb))
  replace HC := Lib.hid (HC.out.trans (hc.mono (S' := [b, g]) (by simp)))
  clear hr hc
  have y : W.cell? ⟨g, 13, none⟩ = some ((.int .u64 0)) := HG.out.cell 13
  have z : W.frozen? ⟨g, 13, none⟩ = false := HG.out.frozen 13
  go_wp2_with fail
  clear y z
  replace HG : Hid (Blk (W.setCell ⟨g, 13, none⟩ ((.int .u64 am))) g 45 (opP 2 nm am ByteArray.empty)) := by
    have q := HG.out.set_ 13 ((.int .u64 am))
    rw [opP_set13] at q
    exact q
  replace HR := Lib.hid (Blk.far HR.out (p := ⟨g, 13, none⟩) hbg ((.int .u64 am)))
  replace HC := Lib.hid (HC.out.trans (Ch.set_ (b := g) (by simp) W 13 ((.int .u64 am))))
  refine ((rd_blob sg _ 400 hs (by omega) (by omega) (by (simp [ByteArray.size_append, putB_size, blobB_size, num1_size] <;> omega)) HR.out)).mono ?_
  rintro e W ⟨rfl, hr, hc⟩
  replace HR := Lib.hid hr
  replace HG := Lib.hid (Blk.ch HG.out hc (by simpa using hgb))
  replace HC := Lib.hid (HC.out.trans (hc.mono (S' := [b, g]) (by simp)))
  clear hr hc
  have y : W.cell? ⟨g, 17, none⟩ = some ((.string ByteArray.empty)) := HG.out.cell 17
  have z : W.frozen? ⟨g, 17, none⟩ = false := HG.out.frozen 17
  go_wp2_with fail
  clear y z
  replace HG : Hid (Blk (W.setCell ⟨g, 17, none⟩ ((.string sg))) g 45 (opP 2 nm am sg)) := by
    have q := HG.out.set_ 17 ((.string sg))
    rw [opP_set17] at q
    exact q
  replace HR := Lib.hid (Blk.far HR.out (p := ⟨g, 17, none⟩) hbg ((.string sg)))
  replace HC := Lib.hid (HC.out.trans (Ch.set_ (b := g) (by simp) W 17 ((.string sg))))
  go_end0
  exact ⟨rfl, HR.out, HG.out, HC.out⟩
set_option maxRecDepth 100000 in
set_option maxHeartbeats 1000000 in
theorem get_t (nm tk : ByteArray) (hs : tk.size ≤ 16) (hr : RdAt w b (blobB tk ++ ByteArray.empty) 0) (hg : Blk w g 45 (opP 3 nm 0 ByteArray.empty)) :
    Calls Tryz.prog 110 #[.pointer (some ⟨b, 0, none⟩), .pointer (some ⟨g, 0, none⟩)] w fun e w' => e = .returned (.tuple #[]) ∧ RdAt w' b ByteArray.empty 0 ∧ Blk w' g 45 (opP 3 nm 0 tk) ∧ Ch [b, g] w w' := by
  have hbg : b ≠ g := Blk.ne_ hr hg (by decide)
  have hgb : g ≠ b := Ne.symm hbg
  have HR := Lib.hid hr
  have HG := Lib.hid hg
  have HC := Lib.hid (Ch.refl [b, g] w)
  have x0 : w.cell? ⟨g, 0, none⟩ = some (.int .i64 3) := hg.cell 0
  clear hr hg
  go_enter Tryz.func110, Tryz.ntmps110
  go_wp2_with fail
  refine ((rd_blob tk _ 16 hs (by omega) (by omega) (by (simp [ByteArray.size_append, putB_size, blobB_size, num1_size] <;> omega)) HR.out)).mono ?_
  rintro e W ⟨rfl, hr, hc⟩
  replace HR := Lib.hid hr
  replace HG := Lib.hid (Blk.ch HG.out hc (by simpa using hgb))
  replace HC := Lib.hid (HC.out.trans (hc.mono (S' := [b, g]) (by simp)))
  clear hr hc
  have y : W.cell? ⟨g, 17, none⟩ = some ((.string ByteArray.empty)) := HG.out.cell 17
  have z : W.frozen? ⟨g, 17, none⟩ = false := HG.out.frozen 17
  go_wp2_with fail
  clear y z
  replace HG : Hid (Blk (W.setCell ⟨g, 17, none⟩ ((.string tk))) g 45 (opP 3 nm 0 tk)) := by
    have q := HG.out.set_ 17 ((.string tk))
    rw [opP_set17] at q
    exact q
  replace HR := Lib.hid (Blk.far HR.out (p := ⟨g, 17, none⟩) hbg ((.string tk)))
  replace HC := Lib.hid (HC.out.trans (Ch.set_ (b := g) (by simp) W 17 ((.string tk))))
  go_end0
  exact ⟨rfl, HR.out, HG.out, HC.out⟩
theorem opT_set20 (nm : ByteArray) (t : Tk) (v : Nat) : (opT nm t).setIfInBounds 20 (.int .u64 (v : Int)) = opT nm { t with face := v } := by simp [opT]
theorem opT_set21 (nm : ByteArray) (t : Tk) (v : Nat) : (opT nm t).setIfInBounds 21 (.int .u64 (v : Int)) = opT nm { t with wins := v } := by simp [opT]
theorem opT_set22 (nm : ByteArray) (t : Tk) (v : Nat) : (opT nm t).setIfInBounds 22 (.int .u64 (v : Int)) = opT nm { t with many := v } := by simp [opT]
theorem opT_set23 (nm : ByteArray) (t : Tk) (v : ByteArray) : (opT nm t).setIfInBounds 23 (.string v) = opT nm { t with com := v } := by simp [opT]
theorem opT_set24 (nm : ByteArray) (t : Tk) (v : Nat) : (opT nm t).setIfInBounds 24 (.int .u64 (v : Int)) = opT nm { t with cl := v } := by simp [opT]
theorem opT_set25 (nm : ByteArray) (t : Tk) (v : ByteArray) : (opT nm t).setIfInBounds 25 (.string v) = opT nm { t with sig := v } := by simp [opT]
set_option maxRecDepth 100000 in
set_option maxHeartbeats 1000000 in
theorem getTicket_ok (nm com sg : ByteArray) (ser face wins many cl : Nat) (h1 : ser < 18446744073709551616) (h2 : face < 18446744073709551616) (h3 : wins < 18446744073709551616) (h4 : many < 18446744073709551616) (h5 : com.size = 16) (h6 : cl < 18446744073709551616) (hs : sg.size ≤ 400)
    (hr : RdAt w b (putB ser ++ (putB face ++ (putB wins ++ (putB many ++ (com ++ (putB cl ++ (blobB sg ++ ByteArray.empty))))))) 0) (hg : Blk w g 45 (opP 5 nm 0 ByteArray.empty)) :
    Calls Tryz.prog 204 #[.pointer (some ⟨b, 0, none⟩), .pointer (some ⟨g, 0, none⟩)] w fun e w' => e = .returned (.tuple #[]) ∧ RdAt w' b ByteArray.empty 0 ∧ Blk w' g 45 (opT nm ⟨nm, ser, face, wins, many, com, cl, sg⟩) ∧ Ch [b, g] w w' := by
  have hbg : b ≠ g := Blk.ne_ hr hg (by decide)
  have hgb : g ≠ b := Ne.symm hbg
  have HR := Lib.hid hr
  have HG := Lib.hid hg
  have HC := Lib.hid (Ch.refl [b, g] w)
  clear hr hg
  go_enter Tryz.func204, Tryz.ntmps204
  go_wp2_with fail
  refine wp_region_held_drew (S := fun W => Hid (W.cell? ⟨g, 1, none⟩ = some (.string nm))) (by kernel_rfl) (Lib.hid (Blk.cell (HG.out.drewN 1) 1)) (fun hS => ?_)
  refine wpAnyH_take (i := 0) (v := ?_) rfl (by kernel_rfl) (by kernel_rfl) (by kernel_rfl) (fun _ _ _ h => h) (Or.inl ⟨by rfl, ?_⟩) hS ?_
  rotate_left
  · (intro w _; go_simp; try with_reducible rfl)
  refine wpAnyH_take (i := 1) (v := ?_) rfl (by kernel_rfl) (by kernel_rfl) (by kernel_rfl) (fun _ _ _ h => h) (Or.inl ⟨by rfl, ?_⟩) hS ?_
  rotate_left
  · (intro w _; go_simp; try with_reducible rfl)
  refine wpAnyH_take (i := 2) (v := ?_) rfl (by kernel_rfl) (by kernel_rfl) (by kernel_rfl) (fun _ _ _ h => h) (Or.inl ⟨by rfl, ?_⟩) hS ?_
  rotate_left
  · (intro w _; go_simp; try with_reducible rfl)
  refine wpAnyH_take (i := 3) (v := ?_) rfl (by kernel_rfl) (by kernel_rfl) (by kernel_rfl) (fun _ _ _ h => h) (Or.inl ⟨by rfl, ?_⟩) hS ?_
  rotate_left
  · (intro w _; go_simp; try with_reducible rfl)
  refine wpAnyH_take (i := 4) (v := ?_) rfl (by kernel_rfl) (by kernel_rfl) (by kernel_rfl) (fun _ _ _ h => h) (Or.inl ⟨by rfl, ?_⟩) hS ?_
  rotate_left
  · (intro w hS'; have hcell := hS'.out; go_simp; try with_reducible rfl)
  refine wpAnyH_take (i := 5) (v := ?_) rfl (by kernel_rfl) (by kernel_rfl) (by kernel_rfl) (fun _ _ _ h => h) (Or.inl ⟨by rfl, ?_⟩) hS ?_
  rotate_left
  · (intro w _; go_simp; try with_reducible rfl)
  refine wpAnyH_ready (rs := [6]) (by kernel_rfl) (by simp) (AllReadyH.cons rfl (fun K hK => ?_) AllReadyH.nil)
  go_simp
  refine (rd_num ser _ h1 (by (simp [ByteArray.size_append, putB_size, blobB_size, num1_size] <;> omega)) (Blk.drewN HR.out 1)).mono ?_
  rintro e W ⟨rfl, hr, hc⟩
  replace HR := Lib.hid hr
  replace HG := Lib.hid (Blk.ch (Blk.drewN HG.out 1) hc (by simpa using hgb))
  replace HC := Lib.hid ((HC.out.trans (Ch.drewN _ _ 1)).trans (hc.mono (S' := [b, g]) (by simp)))
  clear hr hc
  go_simp
  refine hK.out _ _ (Lib.hid (Blk.cell HG.out 1)) (fun hS => ?_)
  clear hK K
  refine wpAnyH_take (i := 7) (v := ?_) rfl (by kernel_rfl) (by kernel_rfl) (by kernel_rfl) (fun _ _ _ h => h) (Or.inl ⟨by rfl, ?_⟩) hS ?_
  rotate_left
  · (intro w _; go_simp; try with_reducible rfl)
  refine wpAnyH_take (i := 8) (v := ?_) rfl (by kernel_rfl) (by kernel_rfl) (by kernel_rfl) (fun _ _ _ h => h) (Or.inl ⟨by rfl, ?_⟩) hS ?_
  rotate_left
  · (intro w _; go_simp; try with_reducible rfl)
  refine wpAnyH_take (i := 9) (v := ?_) rfl (by kernel_rfl) (by kernel_rfl) (by kernel_rfl) (fun _ _ _ h => h) (Or.inl ⟨by rfl, ?_⟩) hS ?_
  rotate_left
  · (intro w _; go_simp; try with_reducible rfl)
  refine wpAnyH_ready (rs := [10]) (by kernel_rfl) (by simp) (AllReadyH.cons rfl (fun K hK => ?_) AllReadyH.nil)
  refine step_store_part (by rfl) 43 (.tmp 13) (.tmp 11) (by rfl) g 18 HG.out (Tk.cs ⟨nm, ser, 0, 0, 0, ByteArray.empty, 0, ByteArray.empty⟩) (opT nm ⟨nm, ser, 0, 0, 0, ByteArray.empty, 0, ByteArray.empty⟩) (by rfl) (by rfl) (by show 26 ≤ 27; omega) infoTk (tkcs_one _) (by simp [Tk.cs, opP, opT, over]) ?_
  intro W1 hb1 hc1
  replace HR := Lib.hid (Blk.ch HR.out hc1 (by simpa using hbg))
  replace HC := Lib.hid (HC.out.trans (hc1.mono (S' := [b, g]) (by simp)))
  replace HG := Lib.hid hb1
  clear hb1 hc1 hS
  refine hK.out _ _ (Lib.hid (Blk.cell HG.out 1)) (fun hS => ?_)
  clear hK K
  refine wpAnyH_done (by kernel_rfl) ?_ _
  clear hS
  go_wp2_with fail
  refine ((rd_num face _ h2 (by (simp [ByteArray.size_append, putB_size, blobB_size, num1_size] <;> omega)) HR.out)).mono ?_
  rintro e W ⟨rfl, hr, hc⟩
  replace HR := Lib.hid hr
  replace HG := Lib.hid (Blk.ch HG.out hc (by simpa using hgb))
  replace HC := Lib.hid (HC.out.trans (hc.mono (S' := [b, g]) (by simp)))
  clear hr hc
  go_wp2_with fail
  refine ((rd_num wins _ h3 (by (simp [ByteArray.size_append, putB_size, blobB_size, num1_size] <;> omega)) HR.out)).mono ?_
  rintro e W ⟨rfl, hr, hc⟩
  replace HR := Lib.hid hr
  replace HG := Lib.hid (Blk.ch HG.out hc (by simpa using hgb))
  replace HC := Lib.hid (HC.out.trans (hc.mono (S' := [b, g]) (by simp)))
  clear hr hc
  go_wp2_with fail
  refine ((rd_num many _ h4 (by (simp [ByteArray.size_append, putB_size, blobB_size, num1_size] <;> omega)) HR.out)).mono ?_
  rintro e W ⟨rfl, hr, hc⟩
  replace HR := Lib.hid hr
  replace HG := Lib.hid (Blk.ch HG.out hc (by simpa using hgb))
  replace HC := Lib.hid (HC.out.trans (hc.mono (S' := [b, g]) (by simp)))
  clear hr hc
  have y20 : W.cell? ⟨g, 20, none⟩ = some (.int .u64 0) := HG.out.cell 20
  have z20 : W.frozen? ⟨g, 20, none⟩ = false := HG.out.frozen 20
  have y21 : W.cell? ⟨g, 21, none⟩ = some (.int .u64 0) := HG.out.cell 21
  have z21 : W.frozen? ⟨g, 21, none⟩ = false := HG.out.frozen 21
  have y22 : W.cell? ⟨g, 22, none⟩ = some (.int .u64 0) := HG.out.cell 22
  have z22 : W.frozen? ⟨g, 22, none⟩ = false := HG.out.frozen 22
  go_wp2_with fail
  clear y20 z20 y21 z21 y22 z22
  replace HG : Hid (Blk (((W.setCell ⟨g, 20, none⟩ (.int .u64 face)).setCell ⟨g, 21, none⟩ (.int .u64 wins)).setCell ⟨g, 22, none⟩ (.int .u64 many)) g 45 (opT nm ⟨nm, ser, face, wins, many, ByteArray.empty, 0, ByteArray.empty⟩)) := by
    have q := ((HG.out.set_ 20 (.int .u64 face)).set_ 21 (.int .u64 wins)).set_ 22 (.int .u64 many)
    rw [opT_set20, opT_set21, opT_set22] at q
    exact q
  replace HR := Lib.hid (Blk.far (Blk.far (Blk.far HR.out (p := ⟨g, 20, none⟩) hbg (.int .u64 face)) (p := ⟨g, 21, none⟩) hbg (.int .u64 wins)) (p := ⟨g, 22, none⟩) hbg (.int .u64 many))
  replace HC := Lib.hid (((HC.out.trans (Ch.set_ (b := g) (by simp) W 20 (.int .u64 face))).trans (Ch.set_ (b := g) (by simp) _ 21 (.int .u64 wins))).trans (Ch.set_ (b := g) (by simp) _ 22 (.int .u64 many)))
  refine ((rd_hash com _ h5 (by (simp [ByteArray.size_append, putB_size, blobB_size, num1_size] <;> omega)) HR.out)).mono ?_
  rintro e W ⟨rfl, hr, hc⟩
  replace HR := Lib.hid hr
  replace HG := Lib.hid (Blk.ch HG.out hc (by simpa using hgb))
  replace HC := Lib.hid (HC.out.trans (hc.mono (S' := [b, g]) (by simp)))
  clear hr hc
  have y : W.cell? ⟨g, 23, none⟩ = some ((.string ByteArray.empty)) := HG.out.cell 23
  have z : W.frozen? ⟨g, 23, none⟩ = false := HG.out.frozen 23
  go_wp2_with fail
  clear y z
  replace HG : Hid (Blk (W.setCell ⟨g, 23, none⟩ ((.string com))) g 45 (opT nm ⟨nm, ser, face, wins, many, com, 0, ByteArray.empty⟩)) := by
    have q := HG.out.set_ 23 ((.string com))
    rw [opT_set23] at q
    exact q
  replace HR := Lib.hid (Blk.far HR.out (p := ⟨g, 23, none⟩) hbg ((.string com)))
  replace HC := Lib.hid (HC.out.trans (Ch.set_ (b := g) (by simp) W 23 ((.string com))))
  refine ((rd_num cl _ h6 (by (simp [ByteArray.size_append, putB_size, blobB_size, num1_size] <;> omega)) HR.out)).mono ?_
  rintro e W ⟨rfl, hr, hc⟩
  replace HR := Lib.hid hr
  replace HG := Lib.hid (Blk.ch HG.out hc (by simpa using hgb))
  replace HC := Lib.hid (HC.out.trans (hc.mono (S' := [b, g]) (by simp)))
  clear hr hc
  have y : W.cell? ⟨g, 24, none⟩ = some ((.int .u64 0)) := HG.out.cell 24
  have z : W.frozen? ⟨g, 24, none⟩ = false := HG.out.frozen 24
  go_wp2_with fail
  clear y z
  replace HG : Hid (Blk (W.setCell ⟨g, 24, none⟩ ((.int .u64 cl))) g 45 (opT nm ⟨nm, ser, face, wins, many, com, cl, ByteArray.empty⟩)) := by
    have q := HG.out.set_ 24 ((.int .u64 cl))
    rw [opT_set24] at q
    exact q
  replace HR := Lib.hid (Blk.far HR.out (p := ⟨g, 24, none⟩) hbg ((.int .u64 cl)))
  replace HC := Lib.hid (HC.out.trans (Ch.set_ (b := g) (by simp) W 24 ((.int .u64 cl))))
  refine ((rd_blob sg _ 400 hs (by omega) (by omega) (by (simp [ByteArray.size_append, putB_size, blobB_size, num1_size] <;> omega)) HR.out)).mono ?_
  rintro e W ⟨rfl, hr, hc⟩
  replace HR := Lib.hid hr
  replace HG := Lib.hid (Blk.ch HG.out hc (by simpa using hgb))
  replace HC := Lib.hid (HC.out.trans (hc.mono (S' := [b, g]) (by simp)))
  clear hr hc
  have y : W.cell? ⟨g, 25, none⟩ = some ((.string ByteArray.empty)) := HG.out.cell 25
  have z : W.frozen? ⟨g, 25, none⟩ = false := HG.out.frozen 25
  go_wp2_with fail
  clear y z
  replace HG : Hid (Blk (W.setCell ⟨g, 25, none⟩ ((.string sg))) g 45 (opT nm ⟨nm, ser, face, wins, many, com, cl, sg⟩)) := by
    have q := HG.out.set_ 25 ((.string sg))
    rw [opT_set25] at q
    exact q
  replace HR := Lib.hid (Blk.far HR.out (p := ⟨g, 25, none⟩) hbg ((.string sg)))
  replace HC := Lib.hid (HC.out.trans (Ch.set_ (b := g) (by simp) W 25 ((.string sg))))
  go_end0
  exact ⟨rfl, HR.out, HG.out, HC.out⟩
set_option maxRecDepth 100000 in
set_option maxHeartbeats 1000000 in
theorem get_k (nm com sg : ByteArray) (ser face wins many cl : Nat) (h1 : ser < 18446744073709551616) (h2 : face < 18446744073709551616) (h3 : wins < 18446744073709551616) (h4 : many < 18446744073709551616) (h5 : com.size = 16) (h6 : cl < 18446744073709551616) (hs : sg.size ≤ 400)
    (hr : RdAt w b (putB ser ++ (putB face ++ (putB wins ++ (putB many ++ (com ++ (putB cl ++ (blobB sg ++ ByteArray.empty))))))) 0) (hg : Blk w g 45 (opP 5 nm 0 ByteArray.empty)) :
    Calls Tryz.prog 110 #[.pointer (some ⟨b, 0, none⟩), .pointer (some ⟨g, 0, none⟩)] w fun e w' => e = .returned (.tuple #[]) ∧ RdAt w' b ByteArray.empty 0 ∧ Blk w' g 45 (opT nm ⟨nm, ser, face, wins, many, com, cl, sg⟩) ∧ Ch [b, g] w w' := by
  have HT := Lib.hid (getTicket_ok nm com sg ser face wins many cl h1 h2 h3 h4 h5 h6 hs hr hg)
  have x0 : w.cell? ⟨g, 0, none⟩ = some (.int .i64 5) := hg.cell 0
  clear hr hg
  go_enter Tryz.func110, Tryz.ntmps110
  go_wp2_with fail
  refine HT.out.mono ?_
  rintro e W ⟨rfl, hr, hg, hc⟩
  have HX := Lib.hid (And.intro hr (And.intro hg hc))
  clear hr hg hc
  go_wp2_with fail
  go_end0
  exact ⟨rfl, HX.out.1, HX.out.2.1, HX.out.2.2⟩
end Go.Proofs.YtgnlakbmibkjgaaGreat
namespace Go.Proofs.YtgnlakbmibkjgaaGreat
open Go.RowKit Go.Maps
theorem opP_set1 (kd : Nat) (nm nm' s : ByteArray) (am : Nat) : (opP kd nm am s).setIfInBounds 1 (.string nm') = opP kd nm' am s := by simp [opP]
theorem opP_set26 (kd : Nat) (nm s : ByteArray) (am : Nat) : (opP kd nm am s).setIfInBounds 26 (.int .i64 0) = opP kd nm am s := by simp [opP]
theorem encV_eq (nm : ByteArray) (am : Nat) (sg : ByteArray) : encV nm am sg = strOfNums [((2 : Nat) : Int)] ++ (nm ++ (putB 0 ++ (putB am ++ (blobB sg ++ ByteArray.empty)))) := by
  refine ba_ext ?_
  simp only [encV, ba_app]
  simp
theorem encT_eq (nm tk : ByteArray) : encT nm tk = strOfNums [((3 : Nat) : Int)] ++ (nm ++ (putB 0 ++ (blobB tk ++ ByteArray.empty))) := by
  refine ba_ext ?_
  simp only [encT, ba_app]
  simp
theorem encK_eq (nm : ByteArray) (t : Tk) : encK nm t = strOfNums [((5 : Nat) : Int)] ++ (nm ++ (putB 0 ++ (putB t.ser ++ (putB t.face ++ (putB t.wins ++ (putB t.many ++ (t.com ++ (putB t.cl ++ (blobB t.sig ++ ByteArray.empty))))))))) := by
  refine ba_ext ?_
  simp only [encK, numsB, List.foldl, ba_app]
  simp
set_option maxRecDepth 100000 in
set_option maxHeartbeats 2000000 in
theorem dec_v (nm sg : ByteArray) (am : Nat) (w : World) (hn : nm.size = 16) (hs : sg.size ≤ 400) (ha : am < 18446744073709551616) :
    Calls Tryz.prog 36 #[.string (encV nm am sg)] w fun e w' => e = .returned (.tuple #[.agg (opP 2 nm am sg), .int .i64 0]) ∧ Below w.heap.size w w' := by
  rw [encV_eq]
  obtain ⟨s, hs0⟩ : ∃ s, s = (strOfNums [((2 : Nat) : Int)] ++ (nm ++ (putB 0 ++ (putB am ++ (blobB sg ++ ByteArray.empty))))) := ⟨_, rfl⟩
  have hsz : s.size ≤ 100000 ∧ 0 < s.size := by rw [hs0]; constructor <;> (simp [ByteArray.size_append, putB_size, blobB_size, num1_size] <;> omega)
  have hne := ne_empty_of s hsz.2
  have hne2 : ¬ s.toList = [] := by simpa using hne
  have hne3 : s.toList.isEmpty = false := by simpa using hne
  have HS0 := Lib.hid hs0
  rw [← hs0]
  clear hs0 hsz
  go_enter Tryz.func36, Tryz.ntmps36
  go_wp2_with fail
  refine (rd_new s _).mono ?_
  rintro e W ⟨b, rfl, hbz, hr, hbl⟩
  have hR := Lib.hid (Blk.bel (Blk.new w 45 (opP 0 ByteArray.empty 0 ByteArray.empty)) hbl)
  have HB : Hid (Below w.heap.size w W) := ((Below.refl _ _).alloc (Nat.le_refl _) _).trans (hbl.mono (by simp))
  have hbb : w.heap.size < b := by rw [hbz]; simp
  have hbW : b < W.heap.size := Blk.lt hr
  rw [HS0.out] at hr
  have HR := Lib.hid hr
  clear hbl hr hbz
  go_wp2_with fail
  refine (rd_byte 2 _ (by omega) (by (simp [ByteArray.size_append, putB_size, blobB_size, num1_size] <;> omega)) HR.out).mono ?_
  rintro e W ⟨rfl, hr, hc⟩
  replace HR := Lib.hid hr
  replace hR := Lib.hid (Blk.ch hR.out hc (by simp <;> omega))
  replace HB := Lib.hid (HB.out.trans (hc.below HB.out.size (by simp <;> omega)))
  have hbW2 : b < W.heap.size := Blk.lt hr
  clear hr hc hbW
  go_wp2_with (first
    | (refine wpList_store_part rfl 45 (.tmp 5) (.tmp 11) rfl W.heap.size 0 (cs := opP 0 ByteArray.empty 0 ByteArray.empty) (Blk.new _ _ _) (opP 2 ByteArray.empty 0 ByteArray.empty) (opP 2 ByteArray.empty 0 ByteArray.empty) (by rfl) (by rfl) (Nat.le_refl 27) infoOp (opP_one _ _ _ _) (opP_over _ _ _ _ _ _ _ _) ?_; intro W1 hb1 hc1; have HG := Lib.hid hb1; have HC1 := Lib.hid hc1; have x0 : W1.cell? ⟨W.heap.size, 0, none⟩ = some (.int .i64 2) := hb1.cell 0; clear hb1 hc1))
  have hWs := HB.out.size
  replace HB := Lib.hid ((HB.out.alloc hWs _).trans (HC1.out.below (by simp <;> omega) (by simp <;> omega)))
  replace HR := Lib.hid (Blk.ch (Blk.alloc HR.out _) HC1.out (by simp <;> omega))
  replace hR := Lib.hid (Blk.ch (Blk.alloc hR.out _) HC1.out (by simp <;> omega))
  have hgW : w.heap.size < W.heap.size := by omega
  generalize W.heap.size = g at HG hbW2 hgW x0 ⊢
  have hbg : b ≠ g := by omega
  have hgb : g ≠ b := by omega
  have HC := Lib.hid (Ch.refl [b, g] W1)
  clear HC1 x0
  refine ((rd_hash nm _ hn (by (simp [ByteArray.size_append, putB_size, blobB_size, num1_size] <;> omega)) HR.out)).mono ?_
  rintro e W ⟨rfl, hr, hc⟩
  replace HR := Lib.hid hr
  replace HG := Lib.hid (Blk.ch HG.out hc (by simpa using hgb))
  replace HC := Lib.hid (HC.out.trans (hc.mono (S' := [b, g]) (by simp)))
  clear hr hc
  have y : W.cell? ⟨g, 1, none⟩ = some ((.string ByteArray.empty)) := HG.out.cell 1
  have z : W.frozen? ⟨g, 1, none⟩ = false := HG.out.frozen 1
  go_wp2_with fail
  clear y z
  replace HG : Hid (Blk (W.setCell ⟨g, 1, none⟩ (.string nm)) g 45 (opP 2 nm 0 ByteArray.empty)) := by
    have q := HG.out.set_ 1 (.string nm)
    rw [opP_set1] at q
    exact q
  replace HR := Lib.hid (Blk.far HR.out (p := ⟨g, 1, none⟩) hbg (.string nm))
  replace HC := Lib.hid (HC.out.trans (Ch.set_ (b := g) (by simp) W 1 (.string nm)))
  refine ((rd_num 0 _ (by omega) (by (simp [ByteArray.size_append, putB_size, blobB_size, num1_size] <;> omega)) HR.out)).mono ?_
  rintro e W ⟨rfl, hr, hc⟩
  replace HR := Lib.hid hr
  replace HG := Lib.hid (Blk.ch HG.out hc (by simpa using hgb))
  replace HC := Lib.hid (HC.out.trans (hc.mono (S' := [b, g]) (by simp)))
  clear hr hc
  go_wp2_with fail
  refine (small0 _).mono ?_
  rintro e W2 ⟨rfl, rfl⟩
  have y : W.cell? ⟨g, 26, none⟩ = some ((.int .i64 0)) := HG.out.cell 26
  have z : W.frozen? ⟨g, 26, none⟩ = false := HG.out.frozen 26
  go_wp2_with fail
  clear y z
  replace HG : Hid (Blk (W.setCell ⟨g, 26, none⟩ (.int .i64 0)) g 45 (opP 2 nm 0 ByteArray.empty)) := by
    have q := HG.out.set_ 26 (.int .i64 0)
    rw [opP_set26] at q
    exact q
  replace HR := Lib.hid (Blk.far HR.out (p := ⟨g, 26, none⟩) hbg (.int .i64 0))
  replace HC := Lib.hid (HC.out.trans (Ch.set_ (b := g) (by simp) W 26 (.int .i64 0)))
  refine ((get_v nm sg am ha hs HR.out HG.out)).mono ?_
  rintro e W3 ⟨rfl, hr, hg, hc⟩
  replace HR := Lib.hid hr
  replace HG := Lib.hid hg
  replace HC := Lib.hid (HC.out.trans hc)
  clear hr hg hc
  go_wp2_with fail
  refine (rd_end HR.out).mono ?_
  rintro e W4 ⟨rfl, rfl⟩
  replace hR := Lib.hid (Blk.ch hR.out HC.out (by simp <;> omega))
  replace HB := Lib.hid (HB.out.trans (HC.out.below HB.out.size (by simp <;> omega)))
  clear HC HR
  go_wp2_with (first
    | (refine wpList_load_blk_g (by rfl) 45 (.tmp 5) rfl _ 0 27 HG.out (opP 2 nm am sg) (by rfl) (ext_full _ 27 rfl) Tryz.underlying45 infoOp (Nat.le_refl 27) ?_))
  refine ((right_v nm sg am _ hn hs)).mono ?_
  rintro e W5 ⟨rfl, hb⟩
  replace hR := Lib.hid (hR.out.bel hb)
  replace HG := Lib.hid (HG.out.bel hb)
  replace HB := Lib.hid (HB.out.trans (hb.mono HB.out.size))
  clear hb
  go_wp2_with (first
    | (refine wpList_load_blk rfl 45 (.tmp 5) rfl _ 0 27 HG.out (opP 2 nm am sg) (by rfl) (ext_full _ 27 rfl) Tryz.underlying45 infoOp (Nat.le_refl 27) ?_)
    | (refine wpList_store_part rfl 45 (.tmp 2) (.tmp 47) rfl _ 0 hR.out (opP 2 nm am sg) (opP 2 nm am sg) (by rfl) (by rfl) (Nat.le_refl 27) infoOp (opP_one _ _ _ _) (opP_over _ _ _ _ _ _ _ _) ?_; intro W6 hb6 hc6; have HB6 := Lib.hid hb6; have HC6 := Lib.hid hc6; clear hb6 hc6))
  exact bodyPost_ret (results_cell_row2 rfl _ HB6.out rfl Tryz.underlying45 infoOp) rfl ⟨rfl, HB.out.trans (HC6.out.below HB.out.size (by simp))⟩
set_option maxRecDepth 100000 in
set_option maxHeartbeats 2000000 in
theorem dec_t (nm tk : ByteArray) (w : World) (hn : nm.size = 16) (hs : tk.size ≤ 16) :
    Calls Tryz.prog 36 #[.string (encT nm tk)] w fun e w' => e = .returned (.tuple #[.agg (opP 3 nm 0 tk), .int .i64 0]) ∧ Below w.heap.size w w' := by
  rw [encT_eq]
  obtain ⟨s, hs0⟩ : ∃ s, s = (strOfNums [((3 : Nat) : Int)] ++ (nm ++ (putB 0 ++ (blobB tk ++ ByteArray.empty)))) := ⟨_, rfl⟩
  have hsz : s.size ≤ 100000 ∧ 0 < s.size := by rw [hs0]; constructor <;> (simp [ByteArray.size_append, putB_size, blobB_size, num1_size] <;> omega)
  have hne := ne_empty_of s hsz.2
  have hne2 : ¬ s.toList = [] := by simpa using hne
  have hne3 : s.toList.isEmpty = false := by simpa using hne
  have HS0 := Lib.hid hs0
  rw [← hs0]
  clear hs0 hsz
  go_enter Tryz.func36, Tryz.ntmps36
  go_wp2_with fail
  refine (rd_new s _).mono ?_
  rintro e W ⟨b, rfl, hbz, hr, hbl⟩
  have hR := Lib.hid (Blk.bel (Blk.new w 45 (opP 0 ByteArray.empty 0 ByteArray.empty)) hbl)
  have HB : Hid (Below w.heap.size w W) := ((Below.refl _ _).alloc (Nat.le_refl _) _).trans (hbl.mono (by simp))
  have hbb : w.heap.size < b := by rw [hbz]; simp
  have hbW : b < W.heap.size := Blk.lt hr
  rw [HS0.out] at hr
  have HR := Lib.hid hr
  clear hbl hr hbz
  go_wp2_with fail
  refine (rd_byte 3 _ (by omega) (by (simp [ByteArray.size_append, putB_size, blobB_size, num1_size] <;> omega)) HR.out).mono ?_
  rintro e W ⟨rfl, hr, hc⟩
  replace HR := Lib.hid hr
  replace hR := Lib.hid (Blk.ch hR.out hc (by simp <;> omega))
  replace HB := Lib.hid (HB.out.trans (hc.below HB.out.size (by simp <;> omega)))
  have hbW2 : b < W.heap.size := Blk.lt hr
  clear hr hc hbW
  go_wp2_with (first
    | (refine wpList_store_part rfl 45 (.tmp 5) (.tmp 11) rfl W.heap.size 0 (cs := opP 0 ByteArray.empty 0 ByteArray.empty) (Blk.new _ _ _) (opP 3 ByteArray.empty 0 ByteArray.empty) (opP 3 ByteArray.empty 0 ByteArray.empty) (by rfl) (by rfl) (Nat.le_refl 27) infoOp (opP_one _ _ _ _) (opP_over _ _ _ _ _ _ _ _) ?_; intro W1 hb1 hc1; have HG := Lib.hid hb1; have HC1 := Lib.hid hc1; have x0 : W1.cell? ⟨W.heap.size, 0, none⟩ = some (.int .i64 3) := hb1.cell 0; clear hb1 hc1))
  have hWs := HB.out.size
  replace HB := Lib.hid ((HB.out.alloc hWs _).trans (HC1.out.below (by simp <;> omega) (by simp <;> omega)))
  replace HR := Lib.hid (Blk.ch (Blk.alloc HR.out _) HC1.out (by simp <;> omega))
  replace hR := Lib.hid (Blk.ch (Blk.alloc hR.out _) HC1.out (by simp <;> omega))
  have hgW : w.heap.size < W.heap.size := by omega
  generalize W.heap.size = g at HG hbW2 hgW x0 ⊢
  have hbg : b ≠ g := by omega
  have hgb : g ≠ b := by omega
  have HC := Lib.hid (Ch.refl [b, g] W1)
  clear HC1 x0
  refine ((rd_hash nm _ hn (by (simp [ByteArray.size_append, putB_size, blobB_size, num1_size] <;> omega)) HR.out)).mono ?_
  rintro e W ⟨rfl, hr, hc⟩
  replace HR := Lib.hid hr
  replace HG := Lib.hid (Blk.ch HG.out hc (by simpa using hgb))
  replace HC := Lib.hid (HC.out.trans (hc.mono (S' := [b, g]) (by simp)))
  clear hr hc
  have y : W.cell? ⟨g, 1, none⟩ = some ((.string ByteArray.empty)) := HG.out.cell 1
  have z : W.frozen? ⟨g, 1, none⟩ = false := HG.out.frozen 1
  go_wp2_with fail
  clear y z
  replace HG : Hid (Blk (W.setCell ⟨g, 1, none⟩ (.string nm)) g 45 (opP 3 nm 0 ByteArray.empty)) := by
    have q := HG.out.set_ 1 (.string nm)
    rw [opP_set1] at q
    exact q
  replace HR := Lib.hid (Blk.far HR.out (p := ⟨g, 1, none⟩) hbg (.string nm))
  replace HC := Lib.hid (HC.out.trans (Ch.set_ (b := g) (by simp) W 1 (.string nm)))
  refine ((rd_num 0 _ (by omega) (by (simp [ByteArray.size_append, putB_size, blobB_size, num1_size] <;> omega)) HR.out)).mono ?_
  rintro e W ⟨rfl, hr, hc⟩
  replace HR := Lib.hid hr
  replace HG := Lib.hid (Blk.ch HG.out hc (by simpa using hgb))
  replace HC := Lib.hid (HC.out.trans (hc.mono (S' := [b, g]) (by simp)))
  clear hr hc
  go_wp2_with fail
  refine (small0 _).mono ?_
  rintro e W2 ⟨rfl, rfl⟩
  have y : W.cell? ⟨g, 26, none⟩ = some ((.int .i64 0)) := HG.out.cell 26
  have z : W.frozen? ⟨g, 26, none⟩ = false := HG.out.frozen 26
  go_wp2_with fail
  clear y z
  replace HG : Hid (Blk (W.setCell ⟨g, 26, none⟩ (.int .i64 0)) g 45 (opP 3 nm 0 ByteArray.empty)) := by
    have q := HG.out.set_ 26 (.int .i64 0)
    rw [opP_set26] at q
    exact q
  replace HR := Lib.hid (Blk.far HR.out (p := ⟨g, 26, none⟩) hbg (.int .i64 0))
  replace HC := Lib.hid (HC.out.trans (Ch.set_ (b := g) (by simp) W 26 (.int .i64 0)))
  refine ((get_t nm tk hs HR.out HG.out)).mono ?_
  rintro e W3 ⟨rfl, hr, hg, hc⟩
  replace HR := Lib.hid hr
  replace HG := Lib.hid hg
  replace HC := Lib.hid (HC.out.trans hc)
  clear hr hg hc
  go_wp2_with fail
  refine (rd_end HR.out).mono ?_
  rintro e W4 ⟨rfl, rfl⟩
  replace hR := Lib.hid (Blk.ch hR.out HC.out (by simp <;> omega))
  replace HB := Lib.hid (HB.out.trans (HC.out.below HB.out.size (by simp <;> omega)))
  clear HC HR
  go_wp2_with (first
    | (refine wpList_load_blk_g (by rfl) 45 (.tmp 5) rfl _ 0 27 HG.out (opP 3 nm 0 tk) (by rfl) (ext_full _ 27 rfl) Tryz.underlying45 infoOp (Nat.le_refl 27) ?_))
  refine ((right_t nm tk _ hn hs)).mono ?_
  rintro e W5 ⟨rfl, hb⟩
  replace hR := Lib.hid (hR.out.bel hb)
  replace HG := Lib.hid (HG.out.bel hb)
  replace HB := Lib.hid (HB.out.trans (hb.mono HB.out.size))
  clear hb
  go_wp2_with (first
    | (refine wpList_load_blk rfl 45 (.tmp 5) rfl _ 0 27 HG.out (opP 3 nm 0 tk) (by rfl) (ext_full _ 27 rfl) Tryz.underlying45 infoOp (Nat.le_refl 27) ?_)
    | (refine wpList_store_part rfl 45 (.tmp 2) (.tmp 47) rfl _ 0 hR.out (opP 3 nm 0 tk) (opP 3 nm 0 tk) (by rfl) (by rfl) (Nat.le_refl 27) infoOp (opP_one _ _ _ _) (opP_over _ _ _ _ _ _ _ _) ?_; intro W6 hb6 hc6; have HB6 := Lib.hid hb6; have HC6 := Lib.hid hc6; clear hb6 hc6))
  exact bodyPost_ret (results_cell_row2 rfl _ HB6.out rfl Tryz.underlying45 infoOp) rfl ⟨rfl, HB.out.trans (HC6.out.below HB.out.size (by simp))⟩
set_option maxRecDepth 100000 in
set_option maxHeartbeats 2000000 in
theorem dec_k (nm : ByteArray) (t : Tk) (w : World) (hn : nm.size = 16) (h0 : t.ch = nm) (h5 : t.com.size = 16) (hs : t.sig.size ≤ 400) (ht : t.ok) :
    Calls Tryz.prog 36 #[.string (encK nm t)] w fun e w' => e = .returned (.tuple #[.agg (opT nm t), .int .i64 0]) ∧ Below w.heap.size w w' := by
  have HRT := fun W => Lib.hid (right_k nm t W hn h0 h5 hs)
  have HGT := fun (W : World) (b g : Nat) hr hg => Lib.hid (get_k (w := W) (b := b) (g := g) nm t.com t.sig t.ser t.face t.wins t.many t.cl ht.ser ht.face ht.wins ht.many h5 ht.cl hs hr hg)
  have he : (⟨nm, t.ser, t.face, t.wins, t.many, t.com, t.cl, t.sig⟩ : Tk) = t := by rw [← h0]
  rw [he] at HGT
  clear he h0 ht
  rw [encK_eq]
  obtain ⟨s, hs0⟩ : ∃ s, s = (strOfNums [((5 : Nat) : Int)] ++ (nm ++ (putB 0 ++ (putB t.ser ++ (putB t.face ++ (putB t.wins ++ (putB t.many ++ (t.com ++ (putB t.cl ++ (blobB t.sig ++ ByteArray.empty)))))))))) := ⟨_, rfl⟩
  have hsz : s.size ≤ 100000 ∧ 0 < s.size := by rw [hs0]; constructor <;> (simp [ByteArray.size_append, putB_size, blobB_size, num1_size] <;> omega)
  have hne := ne_empty_of s hsz.2
  have hne2 : ¬ s.toList = [] := by simpa using hne
  have hne3 : s.toList.isEmpty = false := by simpa using hne
  have HS0 := Lib.hid hs0
  rw [← hs0]
  clear hs0 hsz
  go_enter Tryz.func36, Tryz.ntmps36
  go_wp2_with fail
  refine (rd_new s _).mono ?_
  rintro e W ⟨b, rfl, hbz, hr, hbl⟩
  have hR := Lib.hid (Blk.bel (Blk.new w 45 (opP 0 ByteArray.empty 0 ByteArray.empty)) hbl)
  have HB : Hid (Below w.heap.size w W) := ((Below.refl _ _).alloc (Nat.le_refl _) _).trans (hbl.mono (by simp))
  have hbb : w.heap.size < b := by rw [hbz]; simp
  have hbW : b < W.heap.size := Blk.lt hr
  rw [HS0.out] at hr
  have HR := Lib.hid hr
  clear hbl hr hbz
  go_wp2_with fail
  refine (rd_byte 5 _ (by omega) (by (simp [ByteArray.size_append, putB_size, blobB_size, num1_size] <;> omega)) HR.out).mono ?_
  rintro e W ⟨rfl, hr, hc⟩
  replace HR := Lib.hid hr
  replace hR := Lib.hid (Blk.ch hR.out hc (by simp <;> omega))
  replace HB := Lib.hid (HB.out.trans (hc.below HB.out.size (by simp <;> omega)))
  have hbW2 : b < W.heap.size := Blk.lt hr
  clear hr hc hbW
  go_wp2_with (first
    | (refine wpList_store_part rfl 45 (.tmp 5) (.tmp 11) rfl W.heap.size 0 (cs := opP 0 ByteArray.empty 0 ByteArray.empty) (Blk.new _ _ _) (opP 5 ByteArray.empty 0 ByteArray.empty) (opP 5 ByteArray.empty 0 ByteArray.empty) (by rfl) (by rfl) (Nat.le_refl 27) infoOp (opP_one _ _ _ _) (opP_over _ _ _ _ _ _ _ _) ?_; intro W1 hb1 hc1; have HG := Lib.hid hb1; have HC1 := Lib.hid hc1; have x0 : W1.cell? ⟨W.heap.size, 0, none⟩ = some (.int .i64 5) := hb1.cell 0; clear hb1 hc1))
  have hWs := HB.out.size
  replace HB := Lib.hid ((HB.out.alloc hWs _).trans (HC1.out.below (by simp <;> omega) (by simp <;> omega)))
  replace HR := Lib.hid (Blk.ch (Blk.alloc HR.out _) HC1.out (by simp <;> omega))
  replace hR := Lib.hid (Blk.ch (Blk.alloc hR.out _) HC1.out (by simp <;> omega))
  have hgW : w.heap.size < W.heap.size := by omega
  generalize W.heap.size = g at HG hbW2 hgW x0 ⊢
  have hbg : b ≠ g := by omega
  have hgb : g ≠ b := by omega
  have HC := Lib.hid (Ch.refl [b, g] W1)
  clear HC1 x0
  refine ((rd_hash nm _ hn (by (simp [ByteArray.size_append, putB_size, blobB_size, num1_size] <;> omega)) HR.out)).mono ?_
  rintro e W ⟨rfl, hr, hc⟩
  replace HR := Lib.hid hr
  replace HG := Lib.hid (Blk.ch HG.out hc (by simpa using hgb))
  replace HC := Lib.hid (HC.out.trans (hc.mono (S' := [b, g]) (by simp)))
  clear hr hc
  have y : W.cell? ⟨g, 1, none⟩ = some ((.string ByteArray.empty)) := HG.out.cell 1
  have z : W.frozen? ⟨g, 1, none⟩ = false := HG.out.frozen 1
  go_wp2_with fail
  clear y z
  replace HG : Hid (Blk (W.setCell ⟨g, 1, none⟩ (.string nm)) g 45 (opP 5 nm 0 ByteArray.empty)) := by
    have q := HG.out.set_ 1 (.string nm)
    rw [opP_set1] at q
    exact q
  replace HR := Lib.hid (Blk.far HR.out (p := ⟨g, 1, none⟩) hbg (.string nm))
  replace HC := Lib.hid (HC.out.trans (Ch.set_ (b := g) (by simp) W 1 (.string nm)))
  refine ((rd_num 0 _ (by omega) (by (simp [ByteArray.size_append, putB_size, blobB_size, num1_size] <;> omega)) HR.out)).mono ?_
  rintro e W ⟨rfl, hr, hc⟩
  replace HR := Lib.hid hr
  replace HG := Lib.hid (Blk.ch HG.out hc (by simpa using hgb))
  replace HC := Lib.hid (HC.out.trans (hc.mono (S' := [b, g]) (by simp)))
  clear hr hc
  go_wp2_with fail
  refine (small0 _).mono ?_
  rintro e W2 ⟨rfl, rfl⟩
  have y : W.cell? ⟨g, 26, none⟩ = some ((.int .i64 0)) := HG.out.cell 26
  have z : W.frozen? ⟨g, 26, none⟩ = false := HG.out.frozen 26
  go_wp2_with fail
  clear y z
  replace HG : Hid (Blk (W.setCell ⟨g, 26, none⟩ (.int .i64 0)) g 45 (opP 5 nm 0 ByteArray.empty)) := by
    have q := HG.out.set_ 26 (.int .i64 0)
    rw [opP_set26] at q
    exact q
  replace HR := Lib.hid (Blk.far HR.out (p := ⟨g, 26, none⟩) hbg (.int .i64 0))
  replace HC := Lib.hid (HC.out.trans (Ch.set_ (b := g) (by simp) W 26 (.int .i64 0)))
  refine ((HGT _ _ _ HR.out HG.out).out).mono ?_
  rintro e W3 ⟨rfl, hr, hg, hc⟩
  replace HR := Lib.hid hr
  replace HG := Lib.hid hg
  replace HC := Lib.hid (HC.out.trans hc)
  clear hr hg hc
  go_wp2_with fail
  refine (rd_end HR.out).mono ?_
  rintro e W4 ⟨rfl, rfl⟩
  replace hR := Lib.hid (Blk.ch hR.out HC.out (by simp <;> omega))
  replace HB := Lib.hid (HB.out.trans (HC.out.below HB.out.size (by simp <;> omega)))
  clear HC HR
  go_wp2_with (first
    | (refine wpList_load_blk_g (by rfl) 45 (.tmp 5) rfl _ 0 27 HG.out (opT nm t) (by rfl) (ext_full _ 27 rfl) Tryz.underlying45 infoOp (Nat.le_refl 27) ?_))
  refine ((HRT _).out).mono ?_
  rintro e W5 ⟨rfl, hb⟩
  replace hR := Lib.hid (hR.out.bel hb)
  replace HG := Lib.hid (HG.out.bel hb)
  replace HB := Lib.hid (HB.out.trans (hb.mono HB.out.size))
  clear hb
  go_wp2_with (first
    | (refine wpList_load_blk rfl 45 (.tmp 5) rfl _ 0 27 HG.out (opT nm t) (by rfl) (ext_full _ 27 rfl) Tryz.underlying45 infoOp (Nat.le_refl 27) ?_)
    | (refine wpList_store_part rfl 45 (.tmp 2) (.tmp 47) rfl _ 0 hR.out (opT nm t) (opT nm t) (by rfl) (by rfl) (Nat.le_refl 27) infoOp (opT_one _ _) (opT_over _ _ _ _ _ _) ?_; intro W6 hb6 hc6; have HB6 := Lib.hid hb6; have HC6 := Lib.hid hc6; clear hb6 hc6))
  exact bodyPost_ret (results_cell_row2 rfl _ HB6.out rfl Tryz.underlying45 infoOp) rfl ⟨rfl, HB.out.trans (HC6.out.below HB.out.size (by simp))⟩
end Go.Proofs.YtgnlakbmibkjgaaGreat
