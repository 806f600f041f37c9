/- draw.Top, Fair; lottery's room. sdk.Back without a channel. coin: a transaction of one input and one output: what each part may be. coin.Right of a transaction of one input and one output. -/
import Derived.Outline
import Derived.MapKept
import Derived.Laws.Entries
import Derived.Test.YtdoebmikjgmnaaaGreatMgG12
import Derived.Test.YtdoebmikjgmnaaaGreatMgG16
import Derived.Test.YtdoebmikjgmnaaaGreatMgG22
set_option linter.unusedVariables false
set_option linter.unusedSimpArgs false
namespace Go.Proofs.YtdoebmikjgmnaaaGreat
open Go.RowKit
/-- the greatest word that tells of one of so many numbers -/
def topV (m : Nat) : Nat := 18446744073709551615 - (18446744073709551615 % m + 1) % m
/-- whether there is room for one more offer -/
def roomN (l : List Of) (face : Nat) : Int := if 8 ≤ l.length then 9 else plusE (opnV l : Nat) (face : Nat)
end Go.Proofs.YtdoebmikjgmnaaaGreat
namespace Go.Proofs.YtdoebmikjgmnaaaGreat
open Go.RowKit Go.Maps
theorem infoTx : (Tryz.prog.info? 53).map (·.size) = some 6 := by kernel_rfl
def zTx : Array Value := #[.slice none 0 0, .slice none 0 0, .int .u64 0, .string ByteArray.empty, .string ByteArray.empty, .slice none 0 0]
theorem zTx_one : zTx.all (·.oneCell') = true := by
  rw [Array.all_eq_true']
  intro x hx
  simp only [zTx, List.mem_toArray, List.mem_cons, List.not_mem_nil, or_false] at hx
  rcases hx with rfl | rfl | rfl | rfl | rfl | rfl <;> rfl
theorem zTx_over : over zTx 0 zTx.toList = zTx := (over_full zTx.toList zTx rfl).trans (Array.toArray_toList ..)
variable {w : World} {cb h n i : Nat} {seed : ByteArray}
end Go.Proofs.YtdoebmikjgmnaaaGreat
namespace Go.Proofs.YtdoebmikjgmnaaaGreat
open Go.RowKit Go.Maps
def payC (am : Nat) (key : ByteArray) : Array Value := #[.int .i64 1, .int .u64 (am : Nat), .string key, .string ByteArray.empty, .int .i64 0, .string ByteArray.empty, .int .u64 0, .int .i64 0, .string ByteArray.empty]
def inC (tx : ByteArray) (out path : Nat) (sig : ByteArray) : Array Value := #[.string tx, .int .i64 (out : Nat), .int .i64 (path : Nat), .string sig]
theorem infoIn : (Tryz.prog.info? 64).map (·.size) = some 4 := by kernel_rfl
theorem infoOutC : (Tryz.prog.info? 41).map (·.size) = some 9 := by kernel_rfl
theorem inC_one (tx : ByteArray) (out path : Nat) (sig : ByteArray) : (inC tx out path sig).all (·.oneCell') = true := by
  rw [Array.all_eq_true']
  intro x hx
  simp only [inC, List.mem_toArray, List.mem_cons, List.not_mem_nil, or_false] at hx
  rcases hx with rfl | rfl | rfl | rfl <;> rfl
theorem payC_one (am : Nat) (key : ByteArray) : (payC am key).all (·.oneCell') = true := by
  rw [Array.all_eq_true']
  intro x hx
  simp only [payC, List.mem_toArray, List.mem_cons, List.not_mem_nil, or_false] at hx
  rcases hx with rfl | rfl | rfl | rfl | rfl | rfl | rfl | rfl | rfl <;> rfl
set_option maxRecDepth 100000 in
set_option maxHeartbeats 2000000 in
theorem fits_pay (am : Nat) (key : ByteArray) (w : World) (h1 : 0 < am) (h2 : key.size = 16) :
    Calls Tryz.prog 58 #[.agg (payC am key)] w fun e w' => e = .returned (.bool true) ∧ Below w.heap.size w w' := by
  have d1 : decide ((0 : Int) < am) = true := decide_eq_true (by omega)
  have d2 : ((key.size : Int) == 16) = true := by simp; omega
  unfold payC
  go_enter Tryz.func58, Tryz.ntmps58
  go_wp2
  go_ret
  refine ⟨rfl, ?_⟩
  repeat (first | exact Below.refl _ _ | refine Below.setCell ?_ (by simp) _ | refine Below.alloc ?_ (by simp <;> omega) _ | refine Below.drew ?_)
set_option maxRecDepth 100000 in
set_option maxHeartbeats 2000000 in
theorem fits_in (tx : ByteArray) (out path : Nat) (sig : ByteArray) (w : World) (h1 : tx.size = 16) (h2 : out ≤ 255) (h3 : 1 ≤ path) (h4 : path ≤ 3) (h5 : sig.size ≤ 400) :
    Calls Tryz.prog 109 #[.agg (inC tx out path sig)] w fun e w' => e = .returned (.bool true) ∧ Below w.heap.size w w' := by
  have d1 : decide ((0 : Int) ≤ out) = true := decide_eq_true (by omega)
  have d2 : ((tx.size : Int) == 16) = true := by simp; omega
  have d3 : decide ((out : Int) ≤ 255) = true := decide_eq_true (by omega)
  have d4 : decide ((1 : Int) ≤ path) = true := decide_eq_true (by omega)
  have d5 : decide ((path : Int) ≤ 3) = true := decide_eq_true (by omega)
  have d6 : decide ((sig.size : Int) ≤ 400) = true := decide_eq_true (by omega)
  unfold inC
  go_enter Tryz.func109, Tryz.ntmps109
  go_wp2
  go_ret
  refine ⟨rfl, ?_⟩
  repeat (first | exact Below.refl _ _ | refine Below.setCell ?_ (by simp) _ | refine Below.alloc ?_ (by simp <;> omega) _ | refine Below.drew ?_)
set_option maxRecDepth 100000 in
set_option maxHeartbeats 2000000 in
theorem nright_zero (w : World) :
    Calls Tryz.prog 63 #[.agg #[.int .u64 0, .string ByteArray.empty, .string ByteArray.empty, .slice none 0 0]] w fun e w' => e = .returned (.bool true) ∧ Below w.heap.size w w' := by
  go_enter Tryz.func63, Tryz.ntmps63
  go_wp2_with fail
  refine wp_loop_rounds 1 ?_
  rw [rounds_succ]
  go_wp2
  go_ret
  refine ⟨rfl, ?_⟩
  repeat (first | exact Below.refl _ _ | refine Below.setCell ?_ (by simp) _ | refine Below.alloc ?_ (by simp <;> omega) _ | refine Below.drew ?_)
/-- a row of one input; of one output -/
def Ins1 (w : World) (g : Nat) (tx : ByteArray) (out path : Nat) (sig : ByteArray) : Prop := ∃ cur, Blk w g 64 cur ∧ cur.extract 0 (0 + 4) = inC tx out path sig ∧ 0 + 4 ≤ cur.size
def Outs1 (w : World) (g : Nat) (am : Nat) (key : ByteArray) : Prop := ∃ cur, Blk w g 41 cur ∧ cur.extract 0 (0 + 9) = payC am key ∧ 0 + 9 ≤ cur.size
theorem Ins1.bel {w w' : World} {g out path : Nat} {tx sig : ByteArray} (h : Ins1 w g tx out path sig) (hb : Below w.heap.size w w') : Ins1 w' g tx out path sig := by
  obtain ⟨cur, h1, h2⟩ := h
  exact ⟨cur, h1.bel hb, h2⟩
theorem Outs1.bel {w w' : World} {g am : Nat} {key : ByteArray} (h : Outs1 w g am key) (hb : Below w.heap.size w w') : Outs1 w' g am key := by
  obtain ⟨cur, h1, h2⟩ := h
  exact ⟨cur, h1.bel hb, h2⟩
def txC (gi ci go co : Nat) : Array Value := #[.slice (some ⟨gi, 0, none⟩) 1 ci, .slice (some ⟨go, 0, none⟩) 1 co, .int .u64 0, .string ByteArray.empty, .string ByteArray.empty, .slice none 0 0]
theorem txC_one (gi ci go co : Nat) : (txC gi ci go co).all (·.oneCell') = true := by
  rw [Array.all_eq_true']
  intro x hx
  simp only [txC, List.mem_toArray, List.mem_cons, List.not_mem_nil, or_false] at hx
  rcases hx with rfl | rfl | rfl | rfl | rfl | rfl <;> rfl
set_option maxRecDepth 100000 in
set_option maxHeartbeats 2000000 in
theorem right1_any (am : Nat) (key : ByteArray) (w : World) (h1 : 0 < am) (h2 : key.size = 16) :
    Calls Tryz.prog 110 #[.agg (payC am key)] w fun e w' => e = .returned (.bool false) ∧ Below w.heap.size w w' := by
  have HF := fun W => Lib.hid (fits_pay am key W h1 h2)
  go_enter Tryz.func110, Tryz.ntmps110
  go_wp2_with (first | (refine wpList_load_blk rfl 41 (.tmp 1) rfl w.heap.size 0 9 (Blk.new _ _ _) (payC am key) (by rfl) (by rfl) Tryz.underlying41 infoOutC (Nat.le_refl 9) ?_))
  refine (HF _).out.mono ?_
  rintro e w1 ⟨rfl, hb⟩
  have HB : Hid (Below w.heap.size w w1) := ((Below.refl _ _).alloc (Nat.le_refl _) _).trans (hb.mono (by simp))
  clear hb
  go_wp2
  go_ret
  exact ⟨rfl, HB.out⟩
set_option maxRecDepth 100000 in
set_option maxHeartbeats 2000000 in
theorem index_one (go co am : Nat) (key : ByteArray) (w : World) (hO : Outs1 w go am key) (h1 : 0 < am) (h2 : key.size = 16) :
    Calls Tryz.prog 93 #[.slice (some ⟨go, 0, none⟩) 1 co, .func (Fn.func 110) #[] #[]] w fun e w' => e = .returned (.int .i64 (-1)) ∧ Below w.heap.size w w' := by
  have HF := fun W => Lib.hid (right1_any am key W h1 h2)
  obtain ⟨cur, ho, eo, so⟩ := hO
  have HO := Lib.hid ho
  clear ho
  go_enter Tryz.func93, Tryz.ntmps93
  go_wp2_with fail
  refine wp_loop_rounds 2 ?_
  rw [rounds_succ]
  go_wp2_with (first | (refine wpList_load_blk rfl 41 (.tmp 14) rfl go 0 9 HO.out (payC am key) (by rfl) eo Tryz.underlying41 infoOutC so ?_))
  refine (HF _).out.mono ?_
  rintro e w1 ⟨rfl, hb⟩
  have HB := Lib.hid hb
  clear hb
  go_wp2_with fail
  rw [rounds_succ]
  go_wp2
  go_ret
  exact ⟨rfl, HB.out⟩
set_option maxRecDepth 100000 in
set_option maxHeartbeats 2000000 in
theorem contains_one (go co am : Nat) (key : ByteArray) (w : World) (hO : Outs1 w go am key) (h1 : 0 < am) (h2 : key.size = 16) :
    Calls Tryz.prog 59 #[.slice (some ⟨go, 0, none⟩) 1 co, .func (Fn.func 110) #[] #[]] w fun e w' => e = .returned (.bool false) ∧ Below w.heap.size w w' := by
  have HF := Lib.hid (index_one go co am key w hO h1 h2)
  go_enter Tryz.func59, Tryz.ntmps59
  go_wp2_with fail
  refine HF.out.mono ?_
  rintro e w1 ⟨rfl, hb⟩
  have HB := Lib.hid hb
  clear hb
  go_wp2
  go_ret
  exact ⟨rfl, HB.out⟩
end Go.Proofs.YtdoebmikjgmnaaaGreat
namespace Go.Proofs.YtdoebmikjgmnaaaGreat
open Go.RowKit Go.Maps
/-- a struct is read, where the operation is guarded and wanted -/
theorem wpList_load_blkG {ops : Array Oper} {rest : List Oper} {o : Oper} {a : Act} {w : World} {Q : Exit → Act → World → Prop} (hw : Region.wanted o (yielded ops a.tmps) = true) (ty : TypeId) (x : Operand) (ho : o.op = .load ty x)
    (g off n : Nat) {t : TypeId} {cs : Array Value} {fs : Array Field} (hb : Blk w g t cs) (part : Array Value) (hx : a.eval x = .pointer (some ⟨g, off, none⟩)) (hp : cs.extract off (off + n) = part)
    (hu : Tryz.prog.underlying ty = some (.struct fs)) (hi : (Tryz.prog.info? ty).map (·.size) = some n) (hn : off + n ≤ cs.size)
    (h : wpList Tryz.prog ops Q rest (a.put o.dst (.agg part)) w) : wpList Tryz.prog ops Q (o :: rest) a w := by
  subst hp
  refine wpList_step fun K hK => ?_
  rw [if_pos hw]
  refine wp_load_mid ty x ho g off hx (cs.extract off (off + n)).toList _ (World.rangeAt_of_block (w := w) (b := g) (C := cs) (t := t) (fr := (0, 0)) hb off n) hu rfl (by rw [hi]; simp; omega) (hK _ _ ?_)
  rw [Array.toArray_toList]
  exact h
theorem ck_pnt (b : Bool) (tx : ByteArray) (out : Int) (W : World) : (Instr.checkKey b 10000 39 (.agg #[.string tx, .int .i64 out])).run Tryz.prog W = .ok () W := by kernel_rfl
theorem fk_none (k : Value) (W : World) : (Instr.findKey 39 k []).run Tryz.prog W = .ok none W := by kernel_rfl
theorem zeroB (W : World) : (zeroValue 4).run Tryz.prog W = .ok (.bool false) W := by kernel_rfl
theorem gobj {g c : Nat} {es : Array MapEntry} {W : World} (h : W.heap[g]? = some (.map es c)) : (getObj g).run Tryz.prog W = .ok (.map es c) W := by simp [getObj, Sem.run, h]
theorem look_new (g c : Nat) (tx : ByteArray) (out : Int) (W : World) (h : W.heap[g]? = some (.map #[] c)) : (Instr.lookup 190 (.map (some g)) (.agg #[.string tx, .int .i64 out]) false).run Tryz.prog W = .ok (.bool false) W := by
  unfold Instr.lookup
  simp only [Sem.run_bind, Sem.run_pure, Result.andThen_ok, run_underlying Tryz.underlying190, gobj h, ck_pnt, fk_none, zeroB]
  rfl
theorem upd_new (g c : Nat) (tx : ByteArray) (out : Int) (v : Value) (W : World) (h : W.heap[g]? = some (.map #[] c)) : ∃ W', (Instr.mapUpdate 190 (.map (some g)) (.agg #[.string tx, .int .i64 out]) v).run Tryz.prog W = .ok () W' ∧ Ch [g] W W' := by
  unfold Instr.mapUpdate
  simp only [Sem.run_bind, Sem.run_pure, Result.andThen_ok, run_underlying Tryz.underlying190, gobj h, ck_pnt, fk_none]
  obtain ⟨hz, hv⟩ := Array.getElem?_eq_some_iff.1 h
  refine ⟨{ W with heap := W.heap.setIfInBounds g (.map #[{ key := .agg #[.string tx, .int .i64 out], val := v, born := c }] (c + 1)) }, ?_, ⟨rfl, rfl, rfl, by simp, fun k hk hn => ?_⟩⟩
  · simp [setObj, Sem.run, hz, hv]
  · simp at hn
    simp [Array.getElem?_setIfInBounds_ne (Ne.symm hn)]
theorem within_one (w : World) : Calls Tryz.prog 92 #[.int .i64 1, .int .i64 1, .int .i64 4] w fun e w' => e = .returned (.bool true) ∧ w = w' := by
  go_enter Tryz.func92, Tryz.ntmps92
  go_wp2
  go_ret
  exact ⟨rfl, rfl⟩
set_option maxRecDepth 100000 in
set_option maxHeartbeats 2000000 in
theorem cright_one (gi ci go co : Nat) (tx : ByteArray) (out path : Nat) (sig : ByteArray) (am : Nat) (key : ByteArray) (w : World) (hI : Ins1 w gi tx out path sig) (hO : Outs1 w go am key) (h1 : tx.size = 16) (h2 : out ≤ 255) (h3 : 1 ≤ path) (h4 : path ≤ 3) (h5 : sig.size ≤ 400) (h6 : 0 < am) (h7 : key.size = 16) :
    Calls Tryz.prog 77 #[.agg (txC gi ci go co)] w fun e w' => e = .returned (.bool true) ∧ Below w.heap.size w w' := by
  have hmm := @run_makeMap Tryz.prog
  have HF := fun W => Lib.hid (fits_in tx out path sig W h1 h2 h3 h4 h5)
  have HCT := fun W h => Lib.hid (contains_one (co := co) go am key W h h6 h7)
  have HNR := fun W => Lib.hid (nright_zero W)
  have HWI := fun W => Lib.hid (within_one W)
  have HI := Lib.hid hI
  have HO := Lib.hid hO
  clear hI hO
  have HM0 : Hid (∀ o o', (((w.alloc o).alloc (.map #[] 0)).alloc o').heap[w.heap.size + 1]? = some (.map #[] 0)) := fun o o' => (Below.heap_alloc ((w.alloc o).alloc (.map #[] 0)) o' (w.heap.size + 1) (by simp)).trans (by have := heap_alloc_new (w.alloc o) (.map #[] 0); simpa using this)
  unfold txC
  go_enter Tryz.func77, Tryz.ntmps77
  go_wp2_with fail
  have HT : Hid (∀ o, Blk ((w.alloc (.cells (txC gi ci go co) 53)).alloc o) w.heap.size 53 (txC gi ci go co)) := fun o => (Blk.new _ _ _).alloc o
  obtain ⟨cur, hi, ei, si⟩ := HI.out
  have HII := Lib.hid hi
  clear hi
  refine wp_loop_rounds 2 ?_
  rw [rounds_succ]
  go_wp2_with (first
    | (refine wpList_load_blk rfl 64 (.tmp 13) rfl gi 0 4 ((HII.out.alloc _).alloc _) (inC tx out path sig) (by rfl) ei Tryz.underlying64 infoIn si ?_)
    | (refine wpList_store_part rfl 64 (.tmp 5) (.tmp 14) rfl (w.heap.size + 2) 0 (cs := inC ByteArray.empty 0 0 ByteArray.empty) (Blk.newAt (by simp)) (inC tx out path sig) (inC tx out path sig) (by rfl) (by rfl) (Nat.le_refl 4) infoIn (inC_one _ _ _ _) ((over_full (inC tx out path sig).toList (inC ByteArray.empty 0 0 ByteArray.empty) rfl).trans (Array.toArray_toList ..)) ?_; intro W1 hb1 hc1; have HX1 := Lib.hid hb1; have HC1 := Lib.hid hc1; clear hb1 hc1)
    | (refine wpList_load_blk rfl 64 (.tmp 5) rfl (w.heap.size + 2) 0 4 HX1.out (inC tx out path sig) (by rfl) (by rfl) Tryz.underlying64 infoIn (Nat.le_refl 4) ?_))
  have HM1 : Hid (W1.heap[w.heap.size + 1]? = some (.map #[] 0)) := by
    rw [Hid, HC1.out.block _ (by simp) (by simp)]
    exact HM0.out _ _
  have HB1 : Hid (Below (w.alloc (.cells (txC gi ci go co) 53)).heap.size (w.alloc (.cells (txC gi ci go co) 53)) W1) := (((Below.refl _ _).alloc (Nat.le_refl _) _).alloc (by simp) _).trans (HC1.out.below (by simp) (by simp))
  clear HC1
  refine (HF _).out.mono ?_
  rintro e w2 ⟨rfl, hb2⟩
  have HX2 := Lib.hid (HX1.out.bel hb2)
  have hlt1 : w.heap.size + 1 < W1.heap.size := (Array.getElem?_eq_some_iff.1 HM1.out).1
  have hm2 : w2.heap[w.heap.size + 1]? = some (.map #[] 0) := by rw [hb2.block _ hlt1]; exact HM1.out
  have hlook := look_new (w.heap.size + 1) 0 tx out w2 hm2
  obtain ⟨W3, hupd, hc3⟩ := upd_new (w.heap.size + 1) 0 tx out (.bool true) w2 hm2
  have HB3 : Hid (Below (w.alloc (.cells (txC gi ci go co) 53)).heap.size (w.alloc (.cells (txC gi ci go co) 53)) W3) := (HB1.out.trans (hb2.mono HB1.out.size)).trans (hc3.below ((HB1.out.trans (hb2.mono HB1.out.size)).size) (by simp))
  have HB : Hid (Below w.heap.size w W3) := ((Below.refl _ _).alloc (Nat.le_refl _) _).trans (HB3.out.mono (by simp))
  have HT3 : Hid (Blk W3 w.heap.size 53 (txC gi ci go co)) := (Blk.new w 53 (txC gi ci go co)).bel HB3.out
  have HO3 := Lib.hid (HO.out.bel HB.out)
  have p0 : W3.cell? ⟨w.heap.size, 0, none⟩ = some (.slice (some ⟨gi, 0, none⟩) 1 ci) := HT3.out.cell 0
  have p1 : W3.cell? ⟨w.heap.size, 1, none⟩ = some (.slice (some ⟨go, 0, none⟩) 1 co) := HT3.out.cell 1
  clear hb2 hm2 hc3
  go_wp2_with (first
    | (refine wpList_load_blkG (by rfl) 39 (.tmp 20) rfl (w.heap.size + 2) 0 2 HX2.out #[.string tx, .int .i64 out] (by rfl) (by rfl) Tryz.underlying39 infoPnt (by show 2 ≤ 4; omega) ?_)
    | (refine wpList_load_blk rfl 39 (.tmp 25) rfl (w.heap.size + 2) 0 2 HX2.out #[.string tx, .int .i64 out] (by rfl) (by rfl) Tryz.underlying39 infoPnt (by show 2 ≤ 4; omega) ?_))
  rw [rounds_succ]
  go_wp2_with fail
  refine (HWI _).out.mono ?_
  rintro e w3a ⟨rfl, rfl⟩
  go_wp2_with fail
  refine (HWI _).out.mono ?_
  rintro e w3b ⟨rfl, rfl⟩
  go_wp2_with fail
  refine (HCT _ HO3.out).out.mono ?_
  rintro e w4 ⟨rfl, hb4⟩
  have HB4 : Hid (Below w.heap.size w w4) := HB.out.trans (hb4.mono HB.out.size)
  have HT4 := Lib.hid (HT3.out.bel hb4)
  clear hb4
  go_wp2_with (first
    | (refine wpList_load_blkG (by rfl) 51 (.tmp 46) rfl w.heap.size 2 4 HT4.out #[.int .u64 0, .string ByteArray.empty, .string ByteArray.empty, .slice none 0 0] (by rfl) (by rfl) Tryz.underlying51 (by kernel_rfl) (by show 6 ≤ 6; omega) ?_))
  refine (HNR _).out.mono ?_
  rintro e w5 ⟨rfl, hb5⟩
  have HB5 : Hid (Below w.heap.size w w5) := HB4.out.trans (hb5.mono HB4.out.size)
  clear hb5
  go_wp2
  go_ret
  exact ⟨rfl, HB5.out⟩
end Go.Proofs.YtdoebmikjgmnaaaGreat
