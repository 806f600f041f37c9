/- channel.Same of a state and of it with more locked. == of outputs, and of entries, that are alike. claim.Signed of a transaction of one input and one output. claim.Back of one entry. utxo: what applying a transaction makes of the outputs, and of their total. Operations of a plain region that are guarded, or on structs; texts' order as the walk has it. law17's begin, of anything. law08's Cut of a proof of one win. law17's Cut of an operation. -/
import Derived.Outline
import Derived.Laws.StructEq
import Derived.OwnWalk
import Derived.Defers
import Derived.IntWalk
import Derived.Deep.DeepCutAuto
import Derived.Deep.CutBlock
import Derived.Deep.RegionHeld3
import Derived.Deep.AppendLies
import Derived.Test.YtjcinncphffgaaaGreatMiG22
import Derived.Test.YtjcinncphffgaaaGreatMiG27
import Derived.Test.YtjcinncphffgaaaGreatMiG38
import Derived.Test.YtjcinncphffgaaaGreatMiLotD
import Derived.Test.YtjcinncphffgaaaGreatMiMerk
import Derived.Test.YtjcinncphffgaaaGreatMiN1
import Derived.Test.YtjcinncphffgaaaGreatMiNum
import Derived.Test.YtjcinncphffgaaaGreatMiSdkA
set_option linter.unusedVariables false
set_option linter.unusedSimpArgs false
namespace Go.Proofs.YtjcinncphffgaaaGreat
section
open Go.RowKit Go.Maps
end
section
open Go.RowKit Go.Maps
theorem ouEql (W : World) (a b : Ou) : (binOp .eql 81 (.agg a.cs) (.agg b.cs)).run Tryz.prog W = .ok (.bool (eqOu a b)) W := by
 rw [run_eql_struct, ouEqIn W 9998]; rfl
theorem ouGuardE (W : World) (x y : Operand) (xs ys : Array Value) : (eqGuard .eql 81 x y (.agg xs) (.agg ys)).run Tryz.prog W = .ok () W :=
 run_eqGuard_agg W .eql 81 x y xs ys (by kernel_rfl)
theorem ouEql_self (W : World) (a : Ou) : (binOp .eql 81 (.agg a.cs) (.agg a.cs)).run Tryz.prog W = .ok (.bool true) W := by
 rw [ouEql, (eqOu_iff a a).2 rfl]
end
section
open Go.RowKit Go.Maps
end
section
open Go.RowKit Go.Maps
/-- results: a struct in a cell, and a number in a cell -/
theorem results_cells2 {fn : Func} {p q : Tmp} {ty ty2 : TypeId} (h : fn.results = #[.cell p ty, .cell q ty2]) (tmps : Array Value) {w : World} {g : Nat} {t : TypeId} {cs : Array Value} {fs : Array Field} (hb : Blk w g t cs)
  (hp : tmps.getD p undef = .pointer (some ⟨g, 0, none⟩)) (hu : Tryz.prog.underlying ty = some (.struct fs)) (hi : (Tryz.prog.info? ty).map (·.size) = some cs.size) {a2 : Addr} {v : Value}
  (hq : tmps.getD q undef = .pointer (some a2)) (hv : (loadVar ty2 a2).run Tryz.prog w = .ok v w) : (results fn tmps).run Tryz.prog w = .ok (.tuple #[.agg cs, v]) w := by
 have hp' : tmps[p]?.getD undef = .pointer (some ⟨g, 0, none⟩) := by simpa using hp
 have hq' : tmps[q]?.getD undef = .pointer (some a2) := by simpa using hq
 simp only [results, h]
 simp [Sem.run_bind, Result.andThen, hp', hq', asAddr, run_loadVar_row w g t ty cs (0, 0) _ hb hu rfl hi, hv]
end
section
open Go.RowKit Go.Maps
section
variable {T : List En} {t : Txn} {h : Int}
end
end
section
open Go.RowKit Go.Maps
theorem quiet_eqop {o : Oper} {a : Act} {C : World → Prop} {K : Act → Prop} (op : BinOp) (ty : TypeId) (x y : Operand) {n} (ho : o.op = .binOp op ty x y n) (xs ys : Array Value) (hx : a.eval x = .agg xs) (hy : a.eval y = .agg ys) (r : Bool)
  (hg : ∀ W, (eqGuard op ty x y (.agg xs) (.agg ys)).run Tryz.prog W = .ok () W) (hb : ∀ W, (binOp op ty (.agg xs) (.agg ys)).run Tryz.prog W = .ok (.bool r) W) (hK : K (a.put o.dst (.bool r))) : o.quiet Tryz.prog a C K := by
 refine ⟨.bool r, ?_, hK⟩
 intro W hW
 unfold Oper.quietAt execOp
 simp only [ho, hx, hy, Sem.run_bind, hg, hb, Result.andThen_ok]
 unfold Oper.quietUpon
 exact ⟨rfl, rfl⟩
end
section
open Go.RowKit Go.Maps
def En.toks (e : En) (t : Int) : En := { e with o := { e.o with tok := t } }
def beginX (e : En) : En := if 300 < (cutE e).o.tok ∧ (cutE e).o.tok ≤ 4096 then (cutE e).toks 300 else cutE e
end
section
open Go.RowKit Go.Maps
theorem cutN_minF (s : ByteArray) (n : Nat) : min (s.size : Int) (n : Int) = (cutN s n : Int) := by unfold cutN; split <;> omega
theorem cutN_minF40 (s : ByteArray) : min (s.size : Int) 40 = (cutN s 40 : Int) := cutN_minF s 40
theorem cutN_minF450 (s : ByteArray) : min (s.size : Int) 450 = (cutN s 450 : Int) := cutN_minF s 450
def zPf : Pf := ⟨0, ByteArray.empty, ByteArray.empty, none, [], 0⟩
theorem pfcs_one (p : Pf) : p.cs.all (·.oneCell') = true := by
 rw [Array.all_eq_true']
 intro x hx
 simp only [Pf.cs, List.mem_toArray, List.mem_cons, List.not_mem_nil, or_false] at hx
 rcases hx with rfl | rfl | rfl | rfl <;> rfl
theorem pf_over (p : Pf) {cs : Array Value} (h : cs.size = 4) : over cs 0 p.cs.toList = p.cs := (over_full p.cs.toList cs (by rw [h]; rfl)).trans (Array.toArray_toList ..)
def cutP (p : Pf) : Pf := ⟨p.am, cutT p.sig 450, cutT p.tok 40, none, [], 0⟩
theorem cutwin_x (x : Wn) (w : World) : Calls Tryz.prog 143 #[.agg x.cs] w fun e w' => e = .returned (.agg #[.string (cutT x.t.ch 40), .int .u64 (x.t.ser : Nat), .int .u64 (x.t.face : Nat), .int .u64 (x.t.wins : Nat), .int .u64 (x.t.many : Nat), .string (cutT x.t.com 40), .int .u64 (x.t.cl : Nat), .string (cutT x.t.sig 450), .string (cutT x.salt 40), .int .u64 (x.drawn : Nat)]) ∧ Below w.heap.size w w' := cutwin_any x w
set_option maxRecDepth 100000 in
set_option maxHeartbeats 1000000 in
theorem lcut_one (p : Pf) (x : Wn) (gb : Nat) (w0 : World) (hp : p.l = [x]) (hA : p.A = some ⟨gb, 0, none⟩) (hG : Blk w0 gb 122 x.cs) :
  Calls Tryz.prog 74 #[.agg p.cs] w0 fun e w' => ∃ (A : Option Addr) (c : Nat), e = .returned (.agg (Pf.cs ⟨p.am, cutT p.sig 450, cutT p.tok 40, A, [cutW x], c⟩)) ∧ Sl w' w'.heap.size 10 Wn.cl A [cutW x] ∧ Below w0.heap.size w0 w' := by
 have HX : Hid (Blk ((w0.alloc (.cells p.cs 51)).alloc (.cells zPf.cs 51)) w0.heap.size 51 p.cs) := Lib.hid ((Blk.new _ _ _).alloc _)
 have HR : Hid (Blk ((w0.alloc (.cells p.cs 51)).alloc (.cells zPf.cs 51)) (w0.heap.size + 1) 51 zPf.cs) := Blk.newAt (by simp)
 have HB : Hid (Below w0.heap.size w0 ((w0.alloc (.cells p.cs 51)).alloc (.cells zPf.cs 51))) := ((Below.refl _ _).alloc (Nat.le_refl _) _).alloc (by simp) _
 have HW : Hid (Blk ((w0.alloc (.cells p.cs 51)).alloc (.cells zPf.cs 51)) gb 122 x.cs) := Lib.hid ((hG.alloc _).alloc _)
 have hgb := hG.lt
 have s1 := (cutN_le p.sig 450).1
 have s2 := (cutN_le p.tok 40).1
 have HSV : Hid (p.cs[3]? = some (.slice (some ⟨gb, 0, none⟩) 1 p.c)) := Lib.hid (by show some (Value.slice p.A p.l.length p.c) = _; rw [hp, hA]; rfl)
 clear hG hp hA
 obtain ⟨n0, hni, hw0, hw1, hw2⟩ := info_parts Tryz.infoWnC
 have Hnz := Lib.hid hw0
 clear hw0
 go_enter Tryz.func74, Tryz.ntmps74
 go_upto_region 1 with fail
 refine wp_gen fun X0 hX => ?_
 replace HX : Hid (Blk X0 w0.heap.size 51 p.cs) := Lib.hid (by rw [hX]; exact HX.out)
 replace HR : Hid (Blk X0 (w0.heap.size + 1) 51 zPf.cs) := Lib.hid (by rw [hX]; exact HR.out)
 replace HB : Hid (Below w0.heap.size w0 X0) := Lib.hid (by rw [hX]; exact HB.out)
 replace HW : Hid (Blk X0 gb 122 x.cs) := Lib.hid (by rw [hX]; exact HW.out)
 clear hX
 refine wp_region_held_drew (S := fun W => Hid (Blk W w0.heap.size 51 p.cs)) (by kernel_rfl) (Lib.hid (HX.out.drewN 1)) (fun hS => ?_)
 replace HX : Hid (Blk X0.drew w0.heap.size 51 p.cs) := Lib.hid (HX.out.drewN 1)
 replace HR : Hid (Blk X0.drew (w0.heap.size + 1) 51 zPf.cs) := Lib.hid (HR.out.drewN 1)
 replace HW : Hid (Blk X0.drew gb 122 x.cs) := Lib.hid (HW.out.drewN 1)
 replace HB : Hid (Below w0.heap.size w0 X0.drew) := HB.out.drew
 refine wpAnyH_genT fun X hX => ?_
 rw [← hX] at HX HR HB HW hS
 clear hX
 refine wpAnyH_take (i := 0) (v := ?_) rfl (by kernel_rfl) (by kernel_rfl) (by kernel_rfl) (fun _ _ _ h => h) (Or.inl ⟨by rfl, ?_⟩) hS ?_
 rotate_left
 ·(intro w _; go_simp; try with_reducible rfl)
 refine wpAnyH_take (i := 1) (v := ?_) rfl (by kernel_rfl) (by kernel_rfl) (by kernel_rfl) (fun _ _ _ h => h) (Or.inl ⟨by rfl, ?_⟩) hS ?_
 rotate_left
 ·(intro w hS'; have hcell := (show World.cell? _ ⟨w0.heap.size, 0, none⟩ = some (.int .u64 p.am) from Blk.cell hS'.out 0); go_simp; try with_reducible rfl)
 refine wpAnyH_take (i := 2) (v := ?_) rfl (by kernel_rfl) (by kernel_rfl) (by kernel_rfl) (fun _ _ _ h => h) (Or.inl ⟨by rfl, ?_⟩) hS ?_
 rotate_left
 ·(intro w _; go_simp; try with_reducible rfl)
 refine wpAnyH_take (i := 3) (v := ?_) rfl (by kernel_rfl) (by kernel_rfl) (by kernel_rfl) (fun _ _ _ h => h) (Or.inl ⟨by rfl, ?_⟩) hS ?_
 rotate_left
 ·(intro w hS'; have hcell := (show World.cell? _ ⟨w0.heap.size, 1, none⟩ = some (.string p.sig) from Blk.cell hS'.out 1); go_simp; try with_reducible rfl)
 refine wpAnyH_take (i := 4) (v := ?_) rfl (by kernel_rfl) (by kernel_rfl) (by kernel_rfl) (fun _ _ _ h => h) (Or.inl ⟨by rfl, ?_⟩) hS ?_
 rotate_left
 ·(intro w _; go_simp; try with_reducible rfl)
 refine wpAnyH_take (i := 5) (v := ?_) rfl (by kernel_rfl) (by kernel_rfl) (by kernel_rfl) (fun _ _ _ h => h) (Or.inl ⟨by rfl, ?_⟩) hS ?_
 rotate_left
 ·(intro w hS'; have hcell := (show World.cell? _ ⟨w0.heap.size, 1, none⟩ = some (.string p.sig) from Blk.cell hS'.out 1); go_simp; try with_reducible rfl)
 refine wpAnyH_take (i := 6) (v := ?_) rfl (by kernel_rfl) (by kernel_rfl) (by kernel_rfl) (fun _ _ _ h => h) (Or.inl ⟨by rfl, ?_⟩) hS ?_
 rotate_left
 ·(intro w _; go_simp; try with_reducible rfl)
 refine wpAnyH_take (i := 7) (v := .int .i64 ((cutN p.sig 450 : Nat) : Int)) rfl (by kernel_rfl) (by kernel_rfl) (by kernel_rfl) (fun _ _ _ h => h) (Or.inl ⟨by rfl, ?_⟩) hS ?_
 ·intro w _
  go_simp
  first | rw [cutN_if450] | rw [cutN_minF450]
 refine wpAnyH_take (i := 8) (v := ?_) rfl (by kernel_rfl) (by kernel_rfl) (by kernel_rfl) (fun _ _ _ h => h) (Or.inl ⟨by rfl, ?_⟩) hS ?_
 rotate_left
 ·(intro w _; go_simp; try with_reducible rfl)
 refine wpAnyH_take (i := 9) (v := ?_) rfl (by kernel_rfl) (by kernel_rfl) (by kernel_rfl) (fun _ _ _ h => h) (Or.inl ⟨by rfl, ?_⟩) hS ?_
 rotate_left
 ·(intro w _; go_simp; try with_reducible rfl)
 refine wpAnyH_take (i := 10) (v := ?_) rfl (by kernel_rfl) (by kernel_rfl) (by kernel_rfl) (fun _ _ _ h => h) (Or.inl ⟨by rfl, ?_⟩) hS ?_
 rotate_left
 ·(intro w hS'; have hcell := (show World.cell? _ ⟨w0.heap.size, 2, none⟩ = some (.string p.tok) from Blk.cell hS'.out 2); go_simp; try with_reducible rfl)
 refine wpAnyH_take (i := 11) (v := ?_) rfl (by kernel_rfl) (by kernel_rfl) (by kernel_rfl) (fun _ _ _ h => h) (Or.inl ⟨by rfl, ?_⟩) hS ?_
 rotate_left
 ·(intro w _; go_simp; try with_reducible rfl)
 refine wpAnyH_take (i := 12) (v := ?_) rfl (by kernel_rfl) (by kernel_rfl) (by kernel_rfl) (fun _ _ _ h => h) (Or.inl ⟨by rfl, ?_⟩) hS ?_
 rotate_left
 ·(intro w hS'; have hcell := (show World.cell? _ ⟨w0.heap.size, 2, none⟩ = some (.string p.tok) from Blk.cell hS'.out 2); go_simp; try with_reducible rfl)
 refine wpAnyH_take (i := 13) (v := ?_) rfl (by kernel_rfl) (by kernel_rfl) (by kernel_rfl) (fun _ _ _ h => h) (Or.inl ⟨by rfl, ?_⟩) hS ?_
 rotate_left
 ·(intro w _; go_simp; try with_reducible rfl)
 refine wpAnyH_take (i := 14) (v := .int .i64 ((cutN p.tok 40 : Nat) : Int)) rfl (by kernel_rfl) (by kernel_rfl) (by kernel_rfl) (fun _ _ _ h => h) (Or.inl ⟨by rfl, ?_⟩) hS ?_
 ·intro w _
  go_simp
  first | rw [cutN_if40] | rw [cutN_minF40]
 refine wpAnyH_take (i := 15) (v := ?_) rfl (by kernel_rfl) (by kernel_rfl) (by kernel_rfl) (fun _ _ _ h => h) (Or.inl ⟨by rfl, ?_⟩) hS ?_
 rotate_left
 ·(intro w _; go_simp; try with_reducible rfl)
 refine wpAnyH_take (i := 16) (v := ?_) rfl (by kernel_rfl) (by kernel_rfl) (by kernel_rfl) (fun _ _ _ h => h) (Or.inl ⟨by rfl, ?_⟩) hS ?_
 rotate_left
 ·(intro w _; go_simp; try with_reducible rfl)
 clear hS
 refine wpAnyH_ready (rs := [17]) (by kernel_rfl) (by simp) (AllReadyH.cons rfl (fun K hK => ?_) AllReadyH.nil)
 go_simp
 refine hK.out _ _ (Lib.hid (HX.out.alloc _)) (fun _ => ?_)
 clear hK K
 have HZ : Hid (Blk (X.alloc (.cells zPf.cs 51)) X.heap.size 51 zPf.cs) := Blk.new _ _ _
 replace HX := Lib.hid (HX.out.alloc (.cells zPf.cs 51))
 have hgl := HR.out.lt
 have hgw := HW.out.lt
 replace HR := Lib.hid (HR.out.alloc (.cells zPf.cs 51))
 replace HW := Lib.hid (HW.out.alloc (.cells zPf.cs 51))
 replace HB := Lib.hid (HB.out.alloc HB.out.size (.cells zPf.cs 51))
 refine wpAnyH_ready (rs := [18]) (by kernel_rfl) (by simp) (AllReadyH.cons rfl (fun K hK => ?_) AllReadyH.nil)
 refine step_store_part (by rfl) 51 (.tmp 3) (.tmp 21) (by rfl) X.heap.size 0 HZ.out (cutP p).cs (cutP p).cs (by rfl) (by rfl) (Nat.le_refl 4) infoPf (pfcs_one _) (pf_over _ rfl) ?_
 intro W1 hb1 hc1
 have HT := Lib.hid hb1
 replace HX := Lib.hid (HX.out.ch hc1 (by simp <;> omega))
 replace HR := Lib.hid (HR.out.ch hc1 (by simp <;> omega))
 replace HW := Lib.hid (HW.out.ch hc1 (by simp <;> omega))
 have hzz := HB.out.size
 replace HB := Lib.hid (HB.out.trans (hc1.below HB.out.size (by simp <;> omega)))
 clear hb1 hc1 HZ
 refine hK.out _ _ HX (fun _ => ?_)
 clear hK K
 refine wpAnyH_done (by kernel_rfl) ?_ _
 have c3 : W1.cell? ⟨w0.heap.size, 3, none⟩ = some (.slice (some ⟨gb, 0, none⟩) 1 p.c) := (Blk.cell HX.out 3).trans HSV.out
 go_wp2_with fail
 refine wp_loop_rounds 2 ?_
 rw [rounds_succ]
 go_upto_region 5 with fail
 refine wp_region_held_drew (S := fun W => Hid (Blk W w0.heap.size 51 p.cs ∧ Blk W gb 122 x.cs)) (by kernel_rfl) (Lib.hid ⟨HX.out.drewN 1, HW.out.drewN 1⟩) (fun hS => ?_)
 replace HX : Hid (Blk W1.drew w0.heap.size 51 p.cs) := Lib.hid (HX.out.drewN 1)
 replace HR : Hid (Blk W1.drew (w0.heap.size + 1) 51 zPf.cs) := Lib.hid (HR.out.drewN 1)
 replace HW : Hid (Blk W1.drew gb 122 x.cs) := Lib.hid (HW.out.drewN 1)
 replace HT : Hid (Blk W1.drew X.heap.size 51 (cutP p).cs) := Lib.hid (HT.out.drewN 1)
 replace HB : Hid (Below w0.heap.size w0 W1.drew) := HB.out.drew
 clear c3
 refine wpAnyH_genT fun X2 hX => ?_
 rw [← hX] at HX HR HB HW HT hS
 clear hX
 refine wpAnyH_take (i := 0) (v := ?_) rfl (by kernel_rfl) (by kernel_rfl) (by kernel_rfl) (fun _ _ _ h => h) (Or.inl ⟨by rfl, ?_⟩) hS ?_
 rotate_left
 ·(intro w _; go_simp; try with_reducible rfl)
 refine wpAnyH_take (i := 2) (v := ?_) rfl (by kernel_rfl) (by kernel_rfl) (by kernel_rfl) (fun _ _ _ h => h) (Or.inl ⟨by rfl, ?_⟩) hS ?_
 rotate_left
 ·(intro w _; go_simp; try with_reducible rfl)
 refine wpAnyH_take (i := 3) (v := ?_) rfl (by kernel_rfl) (by kernel_rfl) (by kernel_rfl) (fun _ _ _ h => h) (Or.inl ⟨by rfl, ?_⟩) hS ?_
 rotate_left
 ·(intro w hS'; have hcell := (show World.cell? _ ⟨w0.heap.size, 3, none⟩ = some (.slice (some ⟨gb, 0, none⟩) 1 p.c) from (Blk.cell hS'.out.1 3).trans HSV.out); go_simp; try with_reducible rfl)
 refine wpAnyH_take (i := 4) (v := ?_) rfl (by kernel_rfl) (by kernel_rfl) (by kernel_rfl) (fun _ _ _ h => h) (Or.inl ⟨by rfl, ?_⟩) hS ?_
 rotate_left
 ·(intro w _; go_simp; try with_reducible rfl)
 refine wpAnyH_take (i := 5) (v := ?_) rfl (by kernel_rfl) (by kernel_rfl) (by kernel_rfl) (fun _ _ _ h => h) (Or.inl ⟨by rfl, ?_⟩) hS ?_
 rotate_left
 ·(intro w _; go_simp; try with_reducible rfl)
 refine wpAnyH_take (i := 6) (v := .agg x.cs) rfl (by kernel_rfl) (by kernel_rfl) (by kernel_rfl) (fun _ _ _ h => h) (yields_blk (by rfl) 122 (.tmp 38) (by rfl) gb 0 10 (t := 122) (cs := x.cs) (fun W h => h.out.2) x.cs (by rfl) (by rfl) Tryz.underlying122 infoWn (by show 10 ≤ 10; omega)) hS ?_
 have c1 : X2.cell? ⟨X.heap.size, 3, none⟩ = some (.slice none 0 0) := Blk.cell HT.out 3
 refine wpAnyH_ready (rs := [1, 7]) (by kernel_rfl) (by simp) (AllReadyH.cons rfl (fun K hK => ?_) (AllReadyH.cons rfl (fun K hK => ?_) AllReadyH.nil))
 ·go_simp
  refine hK.out _ _ hS (fun _ => ?_)
  clear hK K c1
  refine wpAnyH_ready (rs := [7]) (by kernel_rfl) (by simp) (AllReadyH.cons rfl (fun K hK => ?_) AllReadyH.nil)
  go_simp
  refine (cutwin_x x _).mono ?_
  rintro e W ⟨rfl, hb⟩
  have HBX := Lib.hid hb
  clear hb
  go_simp
  refine hK.out _ _ (Lib.hid ⟨HX.out.bel HBX.out, HW.out.bel HBX.out⟩) (fun _ => ?_)
  clear hK K
  refine wpAnyH_ready (rs := [8]) (by kernel_rfl) (by simp) (AllReadyH.cons rfl (fun K hK => ?_) AllReadyH.nil)
  go_simp
  replace HBX := Lib.hid (HBX.out.alloc HBX.out.size (.cells (cutW x).cs 122))
  have HNB : Hid (Blk (W.alloc (.cells (cutW x).cs 122)) W.heap.size 122 (cutW x).cs) := Blk.new _ _ _
  refine hK.out _ _ (Lib.hid ⟨HX.out.bel HBX.out, HW.out.bel HBX.out⟩) (fun _ => ?_)
  clear hK K
  refine wpAnyH_genT fun X1 hX1 => ?_
  replace hX1 : X1 = W.alloc (.cells (cutW x).cs 122) := hX1
  rw [← hX1] at HBX HNB
  clear hX1
  have HNW := Lib.hid (World.news_of_block HNB.out)
  refine wpAnyH_ready (rs := [9]) (by kernel_rfl) (by simp) (AllReadyH.cons rfl (fun K hK => ?_) AllReadyH.nil)
  refine step_append_lies _ (by rfl) (.tmp 34) (.tmp 41) 49 (by rfl) X2.heap.size 122 n0 _ 10 112 Tryz.underlying49 hni Hnz.out hw1 hw2 rfl (by omega) (.slice none 0 0) 0 [] (by rfl) (own_nil0 _ _ _ _) ⟨W.heap.size, 0, none⟩ 1 1 (cutW x).cl (by rfl) (by rfl) HNW.out (wncl_one (cutW x)) (by omega) (by simp only [maxLen]; omega) (by omega) HBX.out.size _ rfl ?_
  intro gg cap W4 hown4 hgrow hat hlt4
  have HO4 := Lib.hid hown4
  replace HBX := Lib.hid (HBX.out.grown hgrow HBX.out.size (fun j hj => by cases hj))
  clear hown4 hgrow hat hlt4 HNB HNW
  refine hK.out _ _ (Lib.hid ⟨HX.out.bel HBX.out, HW.out.bel HBX.out⟩) (fun hS4 => ?_)
  clear hK K
  refine wpAnyH_take (i := 10) (v := ?_) rfl (by kernel_rfl) (by kernel_rfl) (by kernel_rfl) (fun _ _ _ h => h) (Or.inl ⟨by rfl, ?_⟩) hS4 ?_
  rotate_left
  ·(intro w _; go_simp; try with_reducible rfl)
  refine wpAnyH_ready (rs := [11]) (by kernel_rfl) (by simp) (AllReadyH.cons rfl (fun K hK => ?_) AllReadyH.nil)
  have u3 : W4.cell? ⟨X.heap.size, 3, none⟩ = some (.slice none 0 0) := (HT.out.bel HBX.out).cell 3
  have z3 : W4.frozen? ⟨X.heap.size, 3, none⟩ = false := (HT.out.bel HBX.out).frozen 3
  go_simp
  have HX5 : Hid (Blk (W4.setCell ⟨X.heap.size, 3, none⟩ (.slice (some ⟨gg, 0, none⟩) 1 cap)) w0.heap.size 51 p.cs) := Lib.hid ((HX.out.bel HBX.out).far (p := ⟨X.heap.size, 3, none⟩) (by simp <;> omega) _)
  have HW5 : Hid (Blk (W4.setCell ⟨X.heap.size, 3, none⟩ (.slice (some ⟨gg, 0, none⟩) 1 cap)) gb 122 x.cs) := Lib.hid ((HW.out.bel HBX.out).far (p := ⟨X.heap.size, 3, none⟩) (by simp <;> omega) _)
  refine hK.out _ _ (Lib.hid ⟨HX5.out, HW5.out⟩) (fun _ => ?_)
  clear hK K u3 z3 hS4 HW5
  have HR5 : Hid (Blk (W4.setCell ⟨X.heap.size, 3, none⟩ (.slice (some ⟨gg, 0, none⟩) 1 cap)) (w0.heap.size + 1) 51 zPf.cs) := Lib.hid ((HR.out.bel HBX.out).far (p := ⟨X.heap.size, 3, none⟩) (by simp <;> omega) _)
  have HT5 : Hid (Blk (W4.setCell ⟨X.heap.size, 3, none⟩ (.slice (some ⟨gg, 0, none⟩) 1 cap)) X.heap.size 51 (Pf.cs ⟨p.am, cutT p.sig 450, cutT p.tok 40, some ⟨gg, 0, none⟩, [cutW x], cap⟩)) := Lib.hid ((HT.out.bel HBX.out).set_ 3 (.slice (some ⟨gg, 0, none⟩) 1 cap))
  have HB5 : Hid (Below w0.heap.size w0 (W4.setCell ⟨X.heap.size, 3, none⟩ (.slice (some ⟨gg, 0, none⟩) 1 cap))) := Lib.hid ((HB.out.trans (HBX.out.mono HB.out.size)).setCell (by simp <;> omega) _)
  have HO5 := Lib.hid (own_chT HO4.out (Ch.set_ (S := [X.heap.size]) (b := X.heap.size) (by simp) W4 3 (.slice (some ⟨gg, 0, none⟩) 1 cap)) (HT.out.bel HBX.out).kdT (by decide))
  generalize (W4.setCell ⟨X.heap.size, 3, none⟩ (.slice (some ⟨gg, 0, none⟩) 1 cap)) = W5 at HX5 HR5 HT5 HB5 HO5 ⊢
  refine wpAnyH_done (by kernel_rfl) ?_ _
  clear HO4 HX HW HR HT HB HBX hS
  have c5 : W5.cell? ⟨w0.heap.size, 3, none⟩ = some (.slice (some ⟨gb, 0, none⟩) 1 p.c) := (Blk.cell HX5.out 3).trans HSV.out
  go_wp2_with fail
  rw [rounds_succ]
  go_wp2_with (first
   | (refine wpList_load_blk rfl 51 (.tmp 3) rfl X.heap.size 0 4 HT5.out (Pf.cs ⟨p.am, cutT p.sig 450, cutT p.tok 40, some ⟨gg, 0, none⟩, [cutW x], cap⟩) (by rfl) (by rfl) Tryz.underlying51 infoPf (by show 4 ≤ 4; omega) ?_)
   | (refine wpList_store_part rfl 51 (.tmp 2) (.tmp 44) rfl (w0.heap.size + 1) 0 HR5.out (Pf.cs ⟨p.am, cutT p.sig 450, cutT p.tok 40, some ⟨gg, 0, none⟩, [cutW x], cap⟩) (Pf.cs ⟨p.am, cutT p.sig 450, cutT p.tok 40, some ⟨gg, 0, none⟩, [cutW x], cap⟩) (by rfl) (by rfl) (Nat.le_refl 4) infoPf (pfcs_one _) (pf_over _ rfl) ?_; intro W6 hb6 hc6; have HR6 := Lib.hid hb6; have HC6 := Lib.hid hc6; clear hb6 hc6))
  exact bodyPost_ret (results_cell_row rfl _ _ (w0.heap.size + 1) 51 _ (0, 0) _ rfl HR6.out Tryz.underlying51 rfl infoPf) rfl ⟨some ⟨gg, 0, none⟩, cap, rfl, Sl.of_own (base := X2.heap.size) (n := 1) (c := cap) (e := 122) (fun _ => rfl) (by simpa using own_chT HO5.out HC6.out HR5.out.kdT (by decide)), HB5.out.trans (HC6.out.below HB5.out.size (by simp))⟩
 ·go_simp
  refine (cutwin_x x _).mono ?_
  rintro e W ⟨rfl, hb⟩
  have HBX := Lib.hid hb
  clear hb
  go_simp
  refine hK.out _ _ (Lib.hid ⟨HX.out.bel HBX.out, HW.out.bel HBX.out⟩) (fun _ => ?_)
  clear hK K
  refine wpAnyH_ready (rs := [1, 8]) (by kernel_rfl) (by simp) (AllReadyH.cons rfl (fun K hK => ?_) (AllReadyH.cons rfl (fun K hK => ?_) AllReadyH.nil))
  ·have c1' : W.cell? ⟨X.heap.size, 3, none⟩ = some (.slice none 0 0) := (HT.out.bel HBX.out).cell 3
   go_simp
   refine hK.out _ _ (Lib.hid ⟨HX.out.bel HBX.out, HW.out.bel HBX.out⟩) (fun _ => ?_)
   clear hK K c1 c1'
   refine wpAnyH_ready (rs := [8]) (by kernel_rfl) (by simp) (AllReadyH.cons rfl (fun K hK => ?_) AllReadyH.nil)
   go_simp
   replace HBX := Lib.hid (HBX.out.alloc HBX.out.size (.cells (cutW x).cs 122))
   have HNB : Hid (Blk (W.alloc (.cells (cutW x).cs 122)) W.heap.size 122 (cutW x).cs) := Blk.new _ _ _
   refine hK.out _ _ (Lib.hid ⟨HX.out.bel HBX.out, HW.out.bel HBX.out⟩) (fun _ => ?_)
   clear hK K
   refine wpAnyH_genT fun X1 hX1 => ?_
   replace hX1 : X1 = W.alloc (.cells (cutW x).cs 122) := hX1
   rw [← hX1] at HBX HNB
   clear hX1
   have HNW := Lib.hid (World.news_of_block HNB.out)
   refine wpAnyH_ready (rs := [9]) (by kernel_rfl) (by simp) (AllReadyH.cons rfl (fun K hK => ?_) AllReadyH.nil)
   refine step_append_lies _ (by rfl) (.tmp 34) (.tmp 41) 49 (by rfl) X2.heap.size 122 n0 _ 10 112 Tryz.underlying49 hni Hnz.out hw1 hw2 rfl (by omega) (.slice none 0 0) 0 [] (by rfl) (own_nil0 _ _ _ _) ⟨W.heap.size, 0, none⟩ 1 1 (cutW x).cl (by rfl) (by rfl) HNW.out (wncl_one (cutW x)) (by omega) (by simp only [maxLen]; omega) (by omega) HBX.out.size _ rfl ?_
   intro gg cap W4 hown4 hgrow hat hlt4
   have HO4 := Lib.hid hown4
   replace HBX := Lib.hid (HBX.out.grown hgrow HBX.out.size (fun j hj => by cases hj))
   clear hown4 hgrow hat hlt4 HNB HNW
   refine hK.out _ _ (Lib.hid ⟨HX.out.bel HBX.out, HW.out.bel HBX.out⟩) (fun hS4 => ?_)
   clear hK K
   refine wpAnyH_take (i := 10) (v := ?_) rfl (by kernel_rfl) (by kernel_rfl) (by kernel_rfl) (fun _ _ _ h => h) (Or.inl ⟨by rfl, ?_⟩) hS4 ?_
   rotate_left
   ·(intro w _; go_simp; try with_reducible rfl)
   refine wpAnyH_ready (rs := [11]) (by kernel_rfl) (by simp) (AllReadyH.cons rfl (fun K hK => ?_) AllReadyH.nil)
   have u3 : W4.cell? ⟨X.heap.size, 3, none⟩ = some (.slice none 0 0) := (HT.out.bel HBX.out).cell 3
   have z3 : W4.frozen? ⟨X.heap.size, 3, none⟩ = false := (HT.out.bel HBX.out).frozen 3
   go_simp
   have HX5 : Hid (Blk (W4.setCell ⟨X.heap.size, 3, none⟩ (.slice (some ⟨gg, 0, none⟩) 1 cap)) w0.heap.size 51 p.cs) := Lib.hid ((HX.out.bel HBX.out).far (p := ⟨X.heap.size, 3, none⟩) (by simp <;> omega) _)
   have HW5 : Hid (Blk (W4.setCell ⟨X.heap.size, 3, none⟩ (.slice (some ⟨gg, 0, none⟩) 1 cap)) gb 122 x.cs) := Lib.hid ((HW.out.bel HBX.out).far (p := ⟨X.heap.size, 3, none⟩) (by simp <;> omega) _)
   refine hK.out _ _ (Lib.hid ⟨HX5.out, HW5.out⟩) (fun _ => ?_)
   clear hK K u3 z3 hS4 HW5
   have HR5 : Hid (Blk (W4.setCell ⟨X.heap.size, 3, none⟩ (.slice (some ⟨gg, 0, none⟩) 1 cap)) (w0.heap.size + 1) 51 zPf.cs) := Lib.hid ((HR.out.bel HBX.out).far (p := ⟨X.heap.size, 3, none⟩) (by simp <;> omega) _)
   have HT5 : Hid (Blk (W4.setCell ⟨X.heap.size, 3, none⟩ (.slice (some ⟨gg, 0, none⟩) 1 cap)) X.heap.size 51 (Pf.cs ⟨p.am, cutT p.sig 450, cutT p.tok 40, some ⟨gg, 0, none⟩, [cutW x], cap⟩)) := Lib.hid ((HT.out.bel HBX.out).set_ 3 (.slice (some ⟨gg, 0, none⟩) 1 cap))
   have HB5 : Hid (Below w0.heap.size w0 (W4.setCell ⟨X.heap.size, 3, none⟩ (.slice (some ⟨gg, 0, none⟩) 1 cap))) := Lib.hid ((HB.out.trans (HBX.out.mono HB.out.size)).setCell (by simp <;> omega) _)
   have HO5 := Lib.hid (own_chT HO4.out (Ch.set_ (S := [X.heap.size]) (b := X.heap.size) (by simp) W4 3 (.slice (some ⟨gg, 0, none⟩) 1 cap)) (HT.out.bel HBX.out).kdT (by decide))
   generalize (W4.setCell ⟨X.heap.size, 3, none⟩ (.slice (some ⟨gg, 0, none⟩) 1 cap)) = W5 at HX5 HR5 HT5 HB5 HO5 ⊢
   refine wpAnyH_done (by kernel_rfl) ?_ _
   clear HO4 HX HW HR HT HB HBX hS
   have c5 : W5.cell? ⟨w0.heap.size, 3, none⟩ = some (.slice (some ⟨gb, 0, none⟩) 1 p.c) := (Blk.cell HX5.out 3).trans HSV.out
   go_wp2_with fail
   rw [rounds_succ]
   go_wp2_with (first
    | (refine wpList_load_blk rfl 51 (.tmp 3) rfl X.heap.size 0 4 HT5.out (Pf.cs ⟨p.am, cutT p.sig 450, cutT p.tok 40, some ⟨gg, 0, none⟩, [cutW x], cap⟩) (by rfl) (by rfl) Tryz.underlying51 infoPf (by show 4 ≤ 4; omega) ?_)
    | (refine wpList_store_part rfl 51 (.tmp 2) (.tmp 44) rfl (w0.heap.size + 1) 0 HR5.out (Pf.cs ⟨p.am, cutT p.sig 450, cutT p.tok 40, some ⟨gg, 0, none⟩, [cutW x], cap⟩) (Pf.cs ⟨p.am, cutT p.sig 450, cutT p.tok 40, some ⟨gg, 0, none⟩, [cutW x], cap⟩) (by rfl) (by rfl) (Nat.le_refl 4) infoPf (pfcs_one _) (pf_over _ rfl) ?_; intro W6 hb6 hc6; have HR6 := Lib.hid hb6; have HC6 := Lib.hid hc6; clear hb6 hc6))
   exact bodyPost_ret (results_cell_row rfl _ _ (w0.heap.size + 1) 51 _ (0, 0) _ rfl HR6.out Tryz.underlying51 rfl infoPf) rfl ⟨some ⟨gg, 0, none⟩, cap, rfl, Sl.of_own (base := X2.heap.size) (n := 1) (c := cap) (e := 122) (fun _ => rfl) (by simpa using own_chT HO5.out HC6.out HR5.out.kdT (by decide)), HB5.out.trans (HC6.out.below HB5.out.size (by simp))⟩
  ·clear c1
   go_simp
   replace HBX := Lib.hid (HBX.out.alloc HBX.out.size (.cells (cutW x).cs 122))
   have HNB : Hid (Blk (W.alloc (.cells (cutW x).cs 122)) W.heap.size 122 (cutW x).cs) := Blk.new _ _ _
   refine hK.out _ _ (Lib.hid ⟨HX.out.bel HBX.out, HW.out.bel HBX.out⟩) (fun _ => ?_)
   clear hK K
   refine wpAnyH_genT fun X1 hX1 => ?_
   replace hX1 : X1 = W.alloc (.cells (cutW x).cs 122) := hX1
   rw [← hX1] at HBX HNB
   clear hX1
   have c1' : X1.cell? ⟨X.heap.size, 3, none⟩ = some (.slice none 0 0) := (HT.out.bel HBX.out).cell 3
   refine wpAnyH_ready (rs := [1]) (by kernel_rfl) (by simp) (AllReadyH.cons rfl (fun K hK => ?_) AllReadyH.nil)
   go_simp
   refine hK.out _ _ (Lib.hid ⟨HX.out.bel HBX.out, HW.out.bel HBX.out⟩) (fun _ => ?_)
   clear hK K c1'
   have HNW := Lib.hid (World.news_of_block HNB.out)
   refine wpAnyH_ready (rs := [9]) (by kernel_rfl) (by simp) (AllReadyH.cons rfl (fun K hK => ?_) AllReadyH.nil)
   refine step_append_lies _ (by rfl) (.tmp 34) (.tmp 41) 49 (by rfl) X2.heap.size 122 n0 _ 10 112 Tryz.underlying49 hni Hnz.out hw1 hw2 rfl (by omega) (.slice none 0 0) 0 [] (by rfl) (own_nil0 _ _ _ _) ⟨W.heap.size, 0, none⟩ 1 1 (cutW x).cl (by rfl) (by rfl) HNW.out (wncl_one (cutW x)) (by omega) (by simp only [maxLen]; omega) (by omega) HBX.out.size _ rfl ?_
   intro gg cap W4 hown4 hgrow hat hlt4
   have HO4 := Lib.hid hown4
   replace HBX := Lib.hid (HBX.out.grown hgrow HBX.out.size (fun j hj => by cases hj))
   clear hown4 hgrow hat hlt4 HNB HNW
   refine hK.out _ _ (Lib.hid ⟨HX.out.bel HBX.out, HW.out.bel HBX.out⟩) (fun hS4 => ?_)
   clear hK K
   refine wpAnyH_take (i := 10) (v := ?_) rfl (by kernel_rfl) (by kernel_rfl) (by kernel_rfl) (fun _ _ _ h => h) (Or.inl ⟨by rfl, ?_⟩) hS4 ?_
   rotate_left
   ·(intro w _; go_simp; try with_reducible rfl)
   refine wpAnyH_ready (rs := [11]) (by kernel_rfl) (by simp) (AllReadyH.cons rfl (fun K hK => ?_) AllReadyH.nil)
   have u3 : W4.cell? ⟨X.heap.size, 3, none⟩ = some (.slice none 0 0) := (HT.out.bel HBX.out).cell 3
   have z3 : W4.frozen? ⟨X.heap.size, 3, none⟩ = false := (HT.out.bel HBX.out).frozen 3
   go_simp
   have HX5 : Hid (Blk (W4.setCell ⟨X.heap.size, 3, none⟩ (.slice (some ⟨gg, 0, none⟩) 1 cap)) w0.heap.size 51 p.cs) := Lib.hid ((HX.out.bel HBX.out).far (p := ⟨X.heap.size, 3, none⟩) (by simp <;> omega) _)
   have HW5 : Hid (Blk (W4.setCell ⟨X.heap.size, 3, none⟩ (.slice (some ⟨gg, 0, none⟩) 1 cap)) gb 122 x.cs) := Lib.hid ((HW.out.bel HBX.out).far (p := ⟨X.heap.size, 3, none⟩) (by simp <;> omega) _)
   refine hK.out _ _ (Lib.hid ⟨HX5.out, HW5.out⟩) (fun _ => ?_)
   clear hK K u3 z3 hS4 HW5
   have HR5 : Hid (Blk (W4.setCell ⟨X.heap.size, 3, none⟩ (.slice (some ⟨gg, 0, none⟩) 1 cap)) (w0.heap.size + 1) 51 zPf.cs) := Lib.hid ((HR.out.bel HBX.out).far (p := ⟨X.heap.size, 3, none⟩) (by simp <;> omega) _)
   have HT5 : Hid (Blk (W4.setCell ⟨X.heap.size, 3, none⟩ (.slice (some ⟨gg, 0, none⟩) 1 cap)) X.heap.size 51 (Pf.cs ⟨p.am, cutT p.sig 450, cutT p.tok 40, some ⟨gg, 0, none⟩, [cutW x], cap⟩)) := Lib.hid ((HT.out.bel HBX.out).set_ 3 (.slice (some ⟨gg, 0, none⟩) 1 cap))
   have HB5 : Hid (Below w0.heap.size w0 (W4.setCell ⟨X.heap.size, 3, none⟩ (.slice (some ⟨gg, 0, none⟩) 1 cap))) := Lib.hid ((HB.out.trans (HBX.out.mono HB.out.size)).setCell (by simp <;> omega) _)
   have HO5 := Lib.hid (own_chT HO4.out (Ch.set_ (S := [X.heap.size]) (b := X.heap.size) (by simp) W4 3 (.slice (some ⟨gg, 0, none⟩) 1 cap)) (HT.out.bel HBX.out).kdT (by decide))
   generalize (W4.setCell ⟨X.heap.size, 3, none⟩ (.slice (some ⟨gg, 0, none⟩) 1 cap)) = W5 at HX5 HR5 HT5 HB5 HO5 ⊢
   refine wpAnyH_done (by kernel_rfl) ?_ _
   clear HO4 HX HW HR HT HB HBX hS
   have c5 : W5.cell? ⟨w0.heap.size, 3, none⟩ = some (.slice (some ⟨gb, 0, none⟩) 1 p.c) := (Blk.cell HX5.out 3).trans HSV.out
   go_wp2_with fail
   rw [rounds_succ]
   go_wp2_with (first
    | (refine wpList_load_blk rfl 51 (.tmp 3) rfl X.heap.size 0 4 HT5.out (Pf.cs ⟨p.am, cutT p.sig 450, cutT p.tok 40, some ⟨gg, 0, none⟩, [cutW x], cap⟩) (by rfl) (by rfl) Tryz.underlying51 infoPf (by show 4 ≤ 4; omega) ?_)
    | (refine wpList_store_part rfl 51 (.tmp 2) (.tmp 44) rfl (w0.heap.size + 1) 0 HR5.out (Pf.cs ⟨p.am, cutT p.sig 450, cutT p.tok 40, some ⟨gg, 0, none⟩, [cutW x], cap⟩) (Pf.cs ⟨p.am, cutT p.sig 450, cutT p.tok 40, some ⟨gg, 0, none⟩, [cutW x], cap⟩) (by rfl) (by rfl) (Nat.le_refl 4) infoPf (pfcs_one _) (pf_over _ rfl) ?_; intro W6 hb6 hc6; have HR6 := Lib.hid hb6; have HC6 := Lib.hid hc6; clear hb6 hc6))
   exact bodyPost_ret (results_cell_row rfl _ _ (w0.heap.size + 1) 51 _ (0, 0) _ rfl HR6.out Tryz.underlying51 rfl infoPf) rfl ⟨some ⟨gg, 0, none⟩, cap, rfl, Sl.of_own (base := X2.heap.size) (n := 1) (c := cap) (e := 122) (fun _ => rfl) (by simpa using own_chT HO5.out HC6.out HR5.out.kdT (by decide)), HB5.out.trans (HC6.out.below HB5.out.size (by simp))⟩
end
section
open Go.RowKit Go.Maps
def zOp : Op17 := ⟨0, 0, ByteArray.empty, zWn, zEn, 0⟩
theorem infoOp17 : (Tryz.prog.info? 124).map (·.size) = some 25 := by kernel_rfl
theorem opcs_one (o : Op17) : o.cs.all (·.oneCell') = true := by
 rw [Array.all_eq_true']
 intro x hx
 simp only [Op17.cs, List.mem_toArray, List.mem_cons, List.not_mem_nil, or_false] at hx
 rcases hx with rfl | rfl | rfl | rfl | rfl | rfl | rfl | rfl | rfl | rfl | rfl | rfl | rfl | rfl | rfl | rfl | rfl | rfl | rfl | rfl | rfl | rfl | rfl | rfl | rfl <;> rfl
theorem op_over (o : Op17) {cs : Array Value} (h : cs.size = 25) : over cs 0 o.cs.toList = o.cs := (over_full o.cs.toList cs (by rw [h]; rfl)).trans (Array.toArray_toList ..)
theorem op_setw (o : Op17) (x : Wn) : over o.cs 3 x.cs.toList = ({ o with x := x } : Op17).cs := by
 simp only [Op17.cs, Wn.cs, over, List.setIfInBounds_toArray, List.set_cons_succ, List.set_cons_zero, Nat.reduceAdd]
theorem op_sete (o : Op17) (e : En) : over o.cs 13 e.cs.toList = ({ o with e := e } : Op17).cs := by
 simp only [Op17.cs, En.cs, over, List.setIfInBounds_toArray, List.set_cons_succ, List.set_cons_zero, Nat.reduceAdd]
theorem op_ext (o : Op17) : o.cs.extract 0 (0 + 25) = o.cs := by rw [Array.extract_eq_self_of_le (show o.cs.size ≤ 0 + 25 from Nat.le_refl 25)]
theorem op_le (o : Op17) : 0 + 25 ≤ o.cs.size := Nat.le_refl 25
def cutOp (o : Op17) : Op17 := { o with s := cutT o.s 450, x := cutW o.x, e := cutE o.e }
theorem lcut_x (x : Wn) (gb : Nat) (w0 : World) (hG : Blk w0 gb 122 x.cs) :
  Calls Tryz.prog 74 #[.agg (Pf.cs ⟨0, ByteArray.empty, ByteArray.empty, some ⟨gb, 0, none⟩, [x], 1⟩)] w0 fun e w' => ∃ (A : Option Addr) (c : Nat), e = .returned (.agg #[.int .u64 0, .string (cutT ByteArray.empty 450), .string (cutT ByteArray.empty 40), .slice A 1 c]) ∧ Sl w' w'.heap.size 10 Wn.cl A [cutW x] ∧ Below w0.heap.size w0 w' :=
 lcut_one ⟨0, ByteArray.empty, ByteArray.empty, some ⟨gb, 0, none⟩, [x], 1⟩ x gb w0 rfl rfl hG
set_option maxRecDepth 100000 in
set_option maxHeartbeats 1000000 in
theorem cutop_any (o : Op17) (w0 : World) : Calls Tryz.prog 50 #[.agg o.cs] w0 fun e w' => e = .returned (.agg (cutOp o).cs) ∧ Below w0.heap.size w0 w' := by
 have HX0 : ∀ b, Hid (Blk ((w0.alloc (.cells o.cs 124)).alloc b) w0.heap.size 124 o.cs) := fun b => Lib.hid (Blk.alloc (Blk.new _ _ _) b)
 have c2 : ∀ b, ((w0.alloc (.cells o.cs 124)).alloc b).cell? ⟨w0.heap.size, 2, none⟩ = some (.string o.s) := fun b => (HX0 b).out.cell 2
 have f2 : ∀ b, ((w0.alloc (.cells o.cs 124)).alloc b).frozen? ⟨w0.heap.size, 2, none⟩ = false := fun b => (HX0 b).out.frozen 2
 have l8 := (cutN_le o.s 450).1
 have hfd : ∀ (A : Option Addr) (c : Nat) (W : World), (Instr.field 51 (.agg #[.int .u64 0, .string (cutT ByteArray.empty 450), .string (cutT ByteArray.empty 40), .slice A 1 c]) 3).run Tryz.prog W = .ok (.slice A 1 c) W := fun _ _ _ => by kernel_rfl
 go_enter Tryz.func50, Tryz.ntmps50
 go_upto_region 2 with fail
 simp only [cutN_if450, cutN_minF450, Int.toNat_natCast]
 refine wp_gen fun X hX => ?_
 have HX : Hid (Blk X w0.heap.size 124 (Op17.cs { o with s := cutT o.s 450 })) := Lib.hid (by rw [hX]; exact (Blk.new _ _ _).alloc _)
 have HR : Hid (Blk X (w0.heap.size + 1) 124 (Op17.cs zOp)) := Lib.hid (by rw [hX]; exact Blk.newAt (by simp))
 have HB : Hid (Below w0.heap.size w0 X) := Lib.hid (by rw [hX]; exact ((Below.refl _ _).alloc (Nat.le_refl _) _).alloc (by simp) _)
 clear hX HX0 c2 f2
 have HL := Lib.hid (fun (W : World) (gb : Nat) (h : Blk W gb 122 o.x.cs) => lcut_x o.x gb W h)
 go_wp2_with (refine wpList_load_blk rfl 122 (.tmp 11) rfl w0.heap.size 3 10 HX.out #[.string o.x.t.ch, .int .u64 (o.x.t.ser : Nat), .int .u64 (o.x.t.face : Nat), .int .u64 (o.x.t.wins : Nat), .int .u64 (o.x.t.many : Nat), .string o.x.t.com, .int .u64 (o.x.t.cl : Nat), .string o.x.t.sig, .string o.x.salt, .int .u64 (o.x.drawn : Nat)] (by rfl) (by rfl) Tryz.underlying122 infoWn (by show 13 ≤ 25; omega) ?_)
 refine (HL.out _ X.heap.size (Blk.new X _ o.x.cs)).mono ?_
 rintro e W1 ⟨A, c, rfl, hS1, hb1⟩
 obtain ⟨b, off, rfl, hlt, hcl⟩ := hS1 (by simp)
 have HRG : Hid (∀ j u, (cutW o.x).cl[j]? = some u → W1.cell? ⟨b, off + j, none⟩ = some u) := Lib.hid (fun j v hv => by have q := hcl 0 _ rfl j v hv; simpa using q)
 have HBX1 : Hid (Below X.heap.size X W1) := Lib.hid (((Below.refl _ _).alloc (Nat.le_refl _) _).trans (hb1.mono (by simp)))
 have HX1 := Lib.hid (HX.out.bel HBX1.out)
 have HR1 := Lib.hid (HR.out.bel HBX1.out)
 have HB1 := Lib.hid (HB.out.trans (HBX1.out.mono HB.out.size))
 clear hS1 hb1 hlt hcl HX HR HB HL HBX1
 obtain ⟨o1, ho1⟩ : ∃ o1 : Op17, o1 = { o with s := cutT o.s 450 } := ⟨_, rfl⟩
 have HP1 : Hid (cutOp o = { o1 with x := cutW o.x, e := cutE o1.e }) := Lib.hid (by rw [ho1]; rfl)
 have HCU := fun W => Lib.hid (cut17_any o1.e W)
 rw [← ho1] at HX1
 obtain ⟨oz, hoz⟩ : ∃ oz, cutOp o = oz := ⟨_, rfl⟩
 have HOZ := Lib.hid hoz
 rw [hoz] at HP1
 clear hoz
 generalize cutE o1.e = ez at HP1 HCU
 generalize cutW o.x = xz at HP1 HRG
 clear ho1
 go_wp2_with (first
  | (refine wpList_load_wn rfl (.tmp 17) rfl b off (by rfl) xz HRG.out ?_)
  | (refine wpList_store_part rfl 122 (.tmp 19) (.tmp 18) rfl w0.heap.size 3 HX1.out xz.cs ({ o1 with x := xz } : Op17).cs (by rfl) (by rfl) (by show 13 ≤ 25; omega) infoWn (wncs_one _) (op_setw _ _) ?_; intro W2 hb2 hc2; have HX2 := Lib.hid hb2; have HR2 := Lib.hid (HR1.out.ch hc2 (by simp)); have HB2 := Lib.hid (HB1.out.trans (hc2.below HB1.out.size (by simp))); clear hb2 hc2 HX1 HR1 HB1 HRG)
  | (refine wpList_load_blk rfl 89 (.tmp 20) rfl w0.heap.size 13 11 HX2.out o1.e.cs (by rfl) (op_en _) Tryz.underlying89 infoEnt (by show 24 ≤ 25; omega) ?_))
 refine (HCU W2).out.mono ?_
 rintro e W3 ⟨rfl, hb3⟩
 have HX3 := Lib.hid (HX2.out.bel hb3)
 have HR3 := Lib.hid (HR2.out.bel hb3)
 have HB3 := Lib.hid (HB2.out.trans (hb3.mono HB2.out.size))
 clear hb3 HX2 HR2 HB2
 obtain ⟨o2, ho2⟩ : ∃ o2 : Op17, o2 = { o1 with x := xz } := ⟨_, rfl⟩
 have HP2 : Hid (oz = { o2 with e := ez }) := Lib.hid (by rw [HP1.out, ho2])
 rw [← ho2] at HX3
 clear HP1 ho2
 go_wp2_with (first
  | (refine wpList_store_part rfl 89 (.tmp 23) (.tmp 22) rfl w0.heap.size 13 HX3.out ez.cs ({ o2 with e := ez } : Op17).cs (by rfl) (by rfl) (by show 24 ≤ 25; omega) infoEnt (encs_one _) (op_sete _ _) ?_; intro W4 hb4 hc4; rw [← HP2.out] at hb4; have HX4 := Lib.hid hb4; have HR4 := Lib.hid (HR3.out.ch hc4 (by simp)); have HB4 := Lib.hid (HB3.out.trans (hc4.below HB3.out.size (by simp))); clear hb4 hc4)
  | (refine wpList_load_blk rfl 124 (.tmp 1) rfl w0.heap.size 0 25 HX4.out oz.cs (by rfl) (op_ext oz) Tryz.underlying124 infoOp17 (op_le oz) ?_)
  | (refine wpList_store_part rfl 124 (.tmp 2) (.tmp 24) rfl (w0.heap.size + 1) 0 HR4.out oz.cs oz.cs (by rfl) (by rfl) (op_le zOp) infoOp17 (opcs_one _) (op_over _ rfl) ?_; intro W5 hb5 hc5; have HT := Lib.hid hb5; have HC5 := Lib.hid hc5; clear hb5 hc5))
 exact bodyPost_ret (results_cell_row rfl _ _ (w0.heap.size + 1) 124 _ (0, 0) _ rfl HT.out Tryz.underlying124 rfl infoOp17) rfl ⟨by rw [HOZ.out], HB4.out.trans (HC5.out.below HB4.out.size (by simp))⟩
end
end Go.Proofs.YtjcinncphffgaaaGreat
