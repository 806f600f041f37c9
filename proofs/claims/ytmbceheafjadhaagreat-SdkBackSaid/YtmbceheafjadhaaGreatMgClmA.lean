/- coin: a transaction of one input and one output: what each part may be. coin.Right of a transaction of one input and one output. claim: from, look, for one entry. slices.Clone of one input, of one output, of no wins. coin.Core of a transaction of one input and one output. -/
import Derived.Outline
import Derived.MapKept
import Derived.Laws.Entries
import Derived.OwnWalk
import Derived.Defers
import Derived.Lib.SliceRun
import Derived.Test.YtmbceheafjadhaaGreatMgNote
import Derived.Test.YtmbceheafjadhaaGreatMgNum
import Derived.Test.YtmbceheafjadhaaGreatMgSdkD
set_option linter.unusedVariables false
set_option linter.unusedSimpArgs false
namespace Go.Proofs.YtmbceheafjadhaaGreat
open Go.RowKit Go.Maps
def payC (am : Nat) (key : ByteArray) : Array Value := #[.int .i64 1, .int .u64 (am : Nat), .string key, .string ByteArray.empty, .int .i64 0, .string ByteArray.empty, .int .u64 0, .int .i64 0, .string ByteArray.empty]
def inC (tx : ByteArray) (out path : Nat) (sig : ByteArray) : Array Value := #[.string tx, .int .i64 (out : Nat), .int .i64 (path : Nat), .string sig]
theorem infoIn : (Tryz.prog.info? 74).map (·.size) = some 4 := by kernel_rfl
theorem infoOutC : (Tryz.prog.info? 57).map (·.size) = some 9 := by kernel_rfl
theorem inC_one (tx : ByteArray) (out path : Nat) (sig : ByteArray) : (inC tx out path sig).all (·.oneCell') = true := by
  rw [Array.all_eq_true']
  intro x hx
  simp only [inC, List.mem_toArray, List.mem_cons, List.not_mem_nil, or_false] at hx
  rcases hx with rfl | rfl | rfl | rfl <;> rfl
theorem payC_one (am : Nat) (key : ByteArray) : (payC am key).all (·.oneCell') = true := by
  rw [Array.all_eq_true']
  intro x hx
  simp only [payC, List.mem_toArray, List.mem_cons, List.not_mem_nil, or_false] at hx
  rcases hx with rfl | rfl | rfl | rfl | rfl | rfl | rfl | rfl | rfl <;> rfl
set_option maxRecDepth 100000 in
set_option maxHeartbeats 2000000 in
theorem fits_pay (am : Nat) (key : ByteArray) (w : World) (h1 : 0 < am) (h2 : key.size = 16) :
    Calls Tryz.prog 109 #[.agg (payC am key)] w fun e w' => e = .returned (.bool true) ∧ Below w.heap.size w w' := by
  have d1 : decide ((0 : Int) < am) = true := decide_eq_true (by omega)
  have d2 : ((key.size : Int) == 16) = true := by simp; omega
  unfold payC
  go_enter Tryz.func109, Tryz.ntmps109
  go_wp2
  go_ret
  refine ⟨rfl, ?_⟩
  repeat (first | exact Below.refl _ _ | refine Below.setCell ?_ (by simp) _ | refine Below.alloc ?_ (by simp <;> omega) _ | refine Below.drew ?_)
set_option maxRecDepth 100000 in
set_option maxHeartbeats 2000000 in
theorem fits_in (tx : ByteArray) (out path : Nat) (sig : ByteArray) (w : World) (h1 : tx.size = 16) (h2 : out ≤ 255) (h3 : 1 ≤ path) (h4 : path ≤ 3) (h5 : sig.size ≤ 400) :
    Calls Tryz.prog 107 #[.agg (inC tx out path sig)] w fun e w' => e = .returned (.bool true) ∧ Below w.heap.size w w' := by
  have d1 : decide ((0 : Int) ≤ out) = true := decide_eq_true (by omega)
  have d2 : ((tx.size : Int) == 16) = true := by simp; omega
  have d3 : decide ((out : Int) ≤ 255) = true := decide_eq_true (by omega)
  have d4 : decide ((1 : Int) ≤ path) = true := decide_eq_true (by omega)
  have d5 : decide ((path : Int) ≤ 3) = true := decide_eq_true (by omega)
  have d6 : decide ((sig.size : Int) ≤ 400) = true := decide_eq_true (by omega)
  unfold inC
  go_enter Tryz.func107, Tryz.ntmps107
  go_wp2
  go_ret
  refine ⟨rfl, ?_⟩
  repeat (first | exact Below.refl _ _ | refine Below.setCell ?_ (by simp) _ | refine Below.alloc ?_ (by simp <;> omega) _ | refine Below.drew ?_)
set_option maxRecDepth 100000 in
set_option maxHeartbeats 2000000 in
theorem nright_zero (w : World) :
    Calls Tryz.prog 112 #[.agg #[.int .u64 0, .string ByteArray.empty, .string ByteArray.empty, .slice none 0 0]] w fun e w' => e = .returned (.bool true) ∧ Below w.heap.size w w' := by
  go_enter Tryz.func112, Tryz.ntmps112
  go_wp2_with fail
  refine wp_loop_rounds 1 ?_
  rw [rounds_succ]
  go_wp2
  go_ret
  refine ⟨rfl, ?_⟩
  repeat (first | exact Below.refl _ _ | refine Below.setCell ?_ (by simp) _ | refine Below.alloc ?_ (by simp <;> omega) _ | refine Below.drew ?_)
/-- a row of one input; of one output -/
def Ins1 (w : World) (g : Nat) (tx : ByteArray) (out path : Nat) (sig : ByteArray) : Prop := ∃ cur, Blk w g 74 cur ∧ cur.extract 0 (0 + 4) = inC tx out path sig ∧ 0 + 4 ≤ cur.size
def Outs1 (w : World) (g : Nat) (am : Nat) (key : ByteArray) : Prop := ∃ cur, Blk w g 57 cur ∧ cur.extract 0 (0 + 9) = payC am key ∧ 0 + 9 ≤ cur.size
theorem Ins1.bel {w w' : World} {g out path : Nat} {tx sig : ByteArray} (h : Ins1 w g tx out path sig) (hb : Below w.heap.size w w') : Ins1 w' g tx out path sig := by
  obtain ⟨cur, h1, h2⟩ := h
  exact ⟨cur, h1.bel hb, h2⟩
theorem Outs1.bel {w w' : World} {g am : Nat} {key : ByteArray} (h : Outs1 w g am key) (hb : Below w.heap.size w w') : Outs1 w' g am key := by
  obtain ⟨cur, h1, h2⟩ := h
  exact ⟨cur, h1.bel hb, h2⟩
def txC (gi ci go co : Nat) : Array Value := #[.slice (some ⟨gi, 0, none⟩) 1 ci, .slice (some ⟨go, 0, none⟩) 1 co, .int .u64 0, .string ByteArray.empty, .string ByteArray.empty, .slice none 0 0]
theorem txC_one (gi ci go co : Nat) : (txC gi ci go co).all (·.oneCell') = true := by
  rw [Array.all_eq_true']
  intro x hx
  simp only [txC, List.mem_toArray, List.mem_cons, List.not_mem_nil, or_false] at hx
  rcases hx with rfl | rfl | rfl | rfl | rfl | rfl <;> rfl
set_option maxRecDepth 100000 in
set_option maxHeartbeats 2000000 in
theorem right1_any (am : Nat) (key : ByteArray) (w : World) (h1 : 0 < am) (h2 : key.size = 16) :
    Calls Tryz.prog 108 #[.agg (payC am key)] w fun e w' => e = .returned (.bool false) ∧ Below w.heap.size w w' := by
  have HF := fun W => Lib.hid (fits_pay am key W h1 h2)
  go_enter Tryz.func108, Tryz.ntmps108
  go_wp2_with (first | (refine wpList_load_blk rfl 57 (.tmp 1) rfl w.heap.size 0 9 (Blk.new _ _ _) (payC am key) (by rfl) (by rfl) Tryz.underlying57 infoOutC (Nat.le_refl 9) ?_))
  refine (HF _).out.mono ?_
  rintro e w1 ⟨rfl, hb⟩
  have HB : Hid (Below w.heap.size w w1) := ((Below.refl _ _).alloc (Nat.le_refl _) _).trans (hb.mono (by simp))
  clear hb
  go_wp2
  go_ret
  exact ⟨rfl, HB.out⟩
set_option maxRecDepth 100000 in
set_option maxHeartbeats 2000000 in
theorem index_one (go co am : Nat) (key : ByteArray) (w : World) (hO : Outs1 w go am key) (h1 : 0 < am) (h2 : key.size = 16) :
    Calls Tryz.prog 184 #[.slice (some ⟨go, 0, none⟩) 1 co, .func (Fn.func 108) #[] #[]] w fun e w' => e = .returned (.int .i64 (-1)) ∧ Below w.heap.size w w' := by
  have HF := fun W => Lib.hid (right1_any am key W h1 h2)
  obtain ⟨cur, ho, eo, so⟩ := hO
  have HO := Lib.hid ho
  clear ho
  go_enter Tryz.func184, Tryz.ntmps184
  go_wp2_with fail
  refine wp_loop_rounds 2 ?_
  rw [rounds_succ]
  go_wp2_with (first | (refine wpList_load_blk rfl 57 (.tmp 14) rfl go 0 9 HO.out (payC am key) (by rfl) eo Tryz.underlying57 infoOutC so ?_))
  refine (HF _).out.mono ?_
  rintro e w1 ⟨rfl, hb⟩
  have HB := Lib.hid hb
  clear hb
  go_wp2_with fail
  rw [rounds_succ]
  go_wp2
  go_ret
  exact ⟨rfl, HB.out⟩
set_option maxRecDepth 100000 in
set_option maxHeartbeats 2000000 in
theorem contains_one (go co am : Nat) (key : ByteArray) (w : World) (hO : Outs1 w go am key) (h1 : 0 < am) (h2 : key.size = 16) :
    Calls Tryz.prog 111 #[.slice (some ⟨go, 0, none⟩) 1 co, .func (Fn.func 108) #[] #[]] w fun e w' => e = .returned (.bool false) ∧ Below w.heap.size w w' := by
  have HF := Lib.hid (index_one go co am key w hO h1 h2)
  go_enter Tryz.func111, Tryz.ntmps111
  go_wp2_with fail
  refine HF.out.mono ?_
  rintro e w1 ⟨rfl, hb⟩
  have HB := Lib.hid hb
  clear hb
  go_wp2
  go_ret
  exact ⟨rfl, HB.out⟩
end Go.Proofs.YtmbceheafjadhaaGreat
namespace Go.Proofs.YtmbceheafjadhaaGreat
open Go.RowKit Go.Maps
/-- a struct is read, where the operation is guarded and wanted -/
theorem wpList_load_blkG {ops : Array Oper} {rest : List Oper} {o : Oper} {a : Act} {w : World} {Q : Exit → Act → World → Prop} (hw : Region.wanted o (yielded ops a.tmps) = true) (ty : TypeId) (x : Operand) (ho : o.op = .load ty x)
    (g off n : Nat) {t : TypeId} {cs : Array Value} {fs : Array Field} (hb : Blk w g t cs) (part : Array Value) (hx : a.eval x = .pointer (some ⟨g, off, none⟩)) (hp : cs.extract off (off + n) = part)
    (hu : Tryz.prog.underlying ty = some (.struct fs)) (hi : (Tryz.prog.info? ty).map (·.size) = some n) (hn : off + n ≤ cs.size)
    (h : wpList Tryz.prog ops Q rest (a.put o.dst (.agg part)) w) : wpList Tryz.prog ops Q (o :: rest) a w := by
  subst hp
  refine wpList_step fun K hK => ?_
  rw [if_pos hw]
  refine wp_load_mid ty x ho g off hx (cs.extract off (off + n)).toList _ (World.rangeAt_of_block (w := w) (b := g) (C := cs) (t := t) (fr := (0, 0)) hb off n) hu rfl (by rw [hi]; simp; omega) (hK _ _ ?_)
  rw [Array.toArray_toList]
  exact h
theorem ck_pnt (b : Bool) (tx : ByteArray) (out : Int) (W : World) : (Instr.checkKey b 10000 54 (.agg #[.string tx, .int .i64 out])).run Tryz.prog W = .ok () W := by kernel_rfl
theorem fk_none (k : Value) (W : World) : (Instr.findKey 54 k []).run Tryz.prog W = .ok none W := by kernel_rfl
theorem zeroB (W : World) : (zeroValue 4).run Tryz.prog W = .ok (.bool false) W := by kernel_rfl
theorem gobj {g c : Nat} {es : Array MapEntry} {W : World} (h : W.heap[g]? = some (.map es c)) : (getObj g).run Tryz.prog W = .ok (.map es c) W := by simp [getObj, Sem.run, h]
theorem look_new (g c : Nat) (tx : ByteArray) (out : Int) (W : World) (h : W.heap[g]? = some (.map #[] c)) : (Instr.lookup 199 (.map (some g)) (.agg #[.string tx, .int .i64 out]) false).run Tryz.prog W = .ok (.bool false) W := by
  unfold Instr.lookup
  simp only [Sem.run_bind, Sem.run_pure, Result.andThen_ok, run_underlying Tryz.underlying199, gobj h, ck_pnt, fk_none, zeroB]
  rfl
theorem upd_new (g c : Nat) (tx : ByteArray) (out : Int) (v : Value) (W : World) (h : W.heap[g]? = some (.map #[] c)) : ∃ W', (Instr.mapUpdate 199 (.map (some g)) (.agg #[.string tx, .int .i64 out]) v).run Tryz.prog W = .ok () W' ∧ Ch [g] W W' := by
  unfold Instr.mapUpdate
  simp only [Sem.run_bind, Sem.run_pure, Result.andThen_ok, run_underlying Tryz.underlying199, gobj h, ck_pnt, fk_none]
  obtain ⟨hz, hv⟩ := Array.getElem?_eq_some_iff.1 h
  refine ⟨{ W with heap := W.heap.setIfInBounds g (.map #[{ key := .agg #[.string tx, .int .i64 out], val := v, born := c }] (c + 1)) }, ?_, ⟨rfl, rfl, rfl, by simp, fun k hk hn => ?_⟩⟩
  · simp [setObj, Sem.run, hz, hv]
  · simp at hn
    simp [Array.getElem?_setIfInBounds_ne (Ne.symm hn)]
theorem within_one (w : World) : Calls Tryz.prog 110 #[.int .i64 1, .int .i64 1, .int .i64 4] w fun e w' => e = .returned (.bool true) ∧ w = w' := by
  go_enter Tryz.func110, Tryz.ntmps110
  go_wp2
  go_ret
  exact ⟨rfl, rfl⟩
set_option maxRecDepth 100000 in
set_option maxHeartbeats 2000000 in
theorem cright_one (gi ci go co : Nat) (tx : ByteArray) (out path : Nat) (sig : ByteArray) (am : Nat) (key : ByteArray) (w : World) (hI : Ins1 w gi tx out path sig) (hO : Outs1 w go am key) (h1 : tx.size = 16) (h2 : out ≤ 255) (h3 : 1 ≤ path) (h4 : path ≤ 3) (h5 : sig.size ≤ 400) (h6 : 0 < am) (h7 : key.size = 16) :
    Calls Tryz.prog 36 #[.agg (txC gi ci go co)] w fun e w' => e = .returned (.bool true) ∧ Below w.heap.size w w' := by
  have hmm := @run_makeMap Tryz.prog
  have HF := fun W => Lib.hid (fits_in tx out path sig W h1 h2 h3 h4 h5)
  have HCT := fun W h => Lib.hid (contains_one (co := co) go am key W h h6 h7)
  have HNR := fun W => Lib.hid (nright_zero W)
  have HWI := fun W => Lib.hid (within_one W)
  have HI := Lib.hid hI
  have HO := Lib.hid hO
  clear hI hO
  have HM0 : Hid (∀ o o', (((w.alloc o).alloc (.map #[] 0)).alloc o').heap[w.heap.size + 1]? = some (.map #[] 0)) := fun o o' => (Below.heap_alloc ((w.alloc o).alloc (.map #[] 0)) o' (w.heap.size + 1) (by simp)).trans (by have := heap_alloc_new (w.alloc o) (.map #[] 0); simpa using this)
  unfold txC
  go_enter Tryz.func36, Tryz.ntmps36
  go_wp2_with fail
  have HT : Hid (∀ o, Blk ((w.alloc (.cells (txC gi ci go co) 70)).alloc o) w.heap.size 70 (txC gi ci go co)) := fun o => (Blk.new _ _ _).alloc o
  obtain ⟨cur, hi, ei, si⟩ := HI.out
  have HII := Lib.hid hi
  clear hi
  refine wp_loop_rounds 2 ?_
  rw [rounds_succ]
  go_wp2_with (first
    | (refine wpList_load_blk rfl 74 (.tmp 13) rfl gi 0 4 ((HII.out.alloc _).alloc _) (inC tx out path sig) (by rfl) ei Tryz.underlying74 infoIn si ?_)
    | (refine wpList_store_part rfl 74 (.tmp 5) (.tmp 14) rfl (w.heap.size + 2) 0 (cs := inC ByteArray.empty 0 0 ByteArray.empty) (Blk.newAt (by simp)) (inC tx out path sig) (inC tx out path sig) (by rfl) (by rfl) (Nat.le_refl 4) infoIn (inC_one _ _ _ _) ((over_full (inC tx out path sig).toList (inC ByteArray.empty 0 0 ByteArray.empty) rfl).trans (Array.toArray_toList ..)) ?_; intro W1 hb1 hc1; have HX1 := Lib.hid hb1; have HC1 := Lib.hid hc1; clear hb1 hc1)
    | (refine wpList_load_blk rfl 74 (.tmp 5) rfl (w.heap.size + 2) 0 4 HX1.out (inC tx out path sig) (by rfl) (by rfl) Tryz.underlying74 infoIn (Nat.le_refl 4) ?_))
  have HM1 : Hid (W1.heap[w.heap.size + 1]? = some (.map #[] 0)) := by
    rw [Hid, HC1.out.block _ (by simp) (by simp)]
    exact HM0.out _ _
  have HB1 : Hid (Below (w.alloc (.cells (txC gi ci go co) 70)).heap.size (w.alloc (.cells (txC gi ci go co) 70)) W1) := (((Below.refl _ _).alloc (Nat.le_refl _) _).alloc (by simp) _).trans (HC1.out.below (by simp) (by simp))
  clear HC1
  refine (HF _).out.mono ?_
  rintro e w2 ⟨rfl, hb2⟩
  have HX2 := Lib.hid (HX1.out.bel hb2)
  have hlt1 : w.heap.size + 1 < W1.heap.size := (Array.getElem?_eq_some_iff.1 HM1.out).1
  have hm2 : w2.heap[w.heap.size + 1]? = some (.map #[] 0) := by rw [hb2.block _ hlt1]; exact HM1.out
  have hlook := look_new (w.heap.size + 1) 0 tx out w2 hm2
  obtain ⟨W3, hupd, hc3⟩ := upd_new (w.heap.size + 1) 0 tx out (.bool true) w2 hm2
  have HB3 : Hid (Below (w.alloc (.cells (txC gi ci go co) 70)).heap.size (w.alloc (.cells (txC gi ci go co) 70)) W3) := (HB1.out.trans (hb2.mono HB1.out.size)).trans (hc3.below ((HB1.out.trans (hb2.mono HB1.out.size)).size) (by simp))
  have HB : Hid (Below w.heap.size w W3) := ((Below.refl _ _).alloc (Nat.le_refl _) _).trans (HB3.out.mono (by simp))
  have HT3 : Hid (Blk W3 w.heap.size 70 (txC gi ci go co)) := (Blk.new w 70 (txC gi ci go co)).bel HB3.out
  have HO3 := Lib.hid (HO.out.bel HB.out)
  have p0 : W3.cell? ⟨w.heap.size, 0, none⟩ = some (.slice (some ⟨gi, 0, none⟩) 1 ci) := HT3.out.cell 0
  have p1 : W3.cell? ⟨w.heap.size, 1, none⟩ = some (.slice (some ⟨go, 0, none⟩) 1 co) := HT3.out.cell 1
  clear hb2 hm2 hc3
  go_wp2_with (first
    | (refine wpList_load_blkG (by rfl) 54 (.tmp 20) rfl (w.heap.size + 2) 0 2 HX2.out #[.string tx, .int .i64 out] (by rfl) (by rfl) Tryz.underlying54 infoPnt (by show 2 ≤ 4; omega) ?_)
    | (refine wpList_load_blk rfl 54 (.tmp 25) rfl (w.heap.size + 2) 0 2 HX2.out #[.string tx, .int .i64 out] (by rfl) (by rfl) Tryz.underlying54 infoPnt (by show 2 ≤ 4; omega) ?_))
  rw [rounds_succ]
  go_wp2_with fail
  refine (HWI _).out.mono ?_
  rintro e w3a ⟨rfl, rfl⟩
  go_wp2_with fail
  refine (HWI _).out.mono ?_
  rintro e w3b ⟨rfl, rfl⟩
  go_wp2_with fail
  refine (HCT _ HO3.out).out.mono ?_
  rintro e w4 ⟨rfl, hb4⟩
  have HB4 : Hid (Below w.heap.size w w4) := HB.out.trans (hb4.mono HB.out.size)
  have HT4 := Lib.hid (HT3.out.bel hb4)
  clear hb4
  go_wp2_with (first
    | (refine wpList_load_blkG (by rfl) 68 (.tmp 46) rfl w.heap.size 2 4 HT4.out #[.int .u64 0, .string ByteArray.empty, .string ByteArray.empty, .slice none 0 0] (by rfl) (by rfl) Tryz.underlying68 (by kernel_rfl) (by show 6 ≤ 6; omega) ?_))
  refine (HNR _).out.mono ?_
  rintro e w5 ⟨rfl, hb5⟩
  have HB5 : Hid (Below w.heap.size w w5) := HB4.out.trans (hb5.mono HB4.out.size)
  clear hb5
  go_wp2
  go_ret
  exact ⟨rfl, HB5.out⟩
end Go.Proofs.YtmbceheafjadhaaGreat
namespace Go.Proofs.YtmbceheafjadhaaGreat
open Go.RowKit Go.Maps
theorem Tryz.infoIn4 : (Tryz.prog.info? 74).map (fun i => (i.zero, i.size, i.bytes)) = some (some (.agg (inC ByteArray.empty 0 0 ByteArray.empty)), 4, 48) := by kernel_rfl
def Ent1 (w : World) (g : Nat) (tx : ByteArray) (out : Nat) (l : Lk) : Prop := ∃ cur, Blk w g 59 cur ∧ cur.extract 0 (0 + 11) = entC tx out l ∧ 0 + 11 ≤ cur.size
theorem Ent1.bel {w w' : World} {g out : Nat} {tx : ByteArray} {l : Lk} (h : Ent1 w g tx out l) (hb : Below w.heap.size w w') : Ent1 w' g tx out l := by
  obtain ⟨cur, h1, h2⟩ := h
  exact ⟨cur, h1.bel hb, h2⟩
theorem own_nil (w : World) (base : Nat) (e : TypeId) (k : Nat) : w.ownsRow base e k (.slice none 0 0) 0 [] := ⟨by simp, .inl ⟨rfl, rfl⟩⟩
/-- a row of the call's own of one struct, as a block -/
theorem own_one {w : World} {base k : Nat} {e : TypeId} {v : Value} {cs : Array Value} (h : w.ownsRow base e k v 1 cs.toList) (hk : cs.size = k) : ∃ g c cur, v = .slice (some ⟨g, 0, none⟩) 1 c ∧ base ≤ g ∧ Blk w g e cur ∧ cur.extract 0 (0 + k) = cs ∧ 0 + k ≤ cur.size := by
  obtain ⟨_, h | ⟨g, cap, cur, rfl, h1, h2, h3, h4, h5, h6⟩⟩ := h
  · omega
  · have : k ≤ cap * k := Nat.le_mul_of_pos_left k (by omega)
    refine ⟨g, cap, cur, rfl, h1, h2, ?_, by omega⟩
    apply Array.ext'
    rw [← h6, Array.toList_extract, Nat.one_mul, Nat.zero_add]
    simp [List.extract_eq_take_drop]
theorem entC_one (tx : ByteArray) (out : Nat) (l : Lk) : (entC tx out l).all (·.oneCell') = true := by
  rw [Array.all_eq_true']
  intro x hx
  simp only [entC, List.mem_toArray, List.mem_cons, List.not_mem_nil, or_false] at hx
  rcases hx with rfl | rfl | rfl | rfl | rfl | rfl | rfl | rfl | rfl | rfl | rfl <;> rfl
def zEnt : Array Value := #[.string ByteArray.empty, .int .i64 0, .int .i64 0, .int .u64 0, .string ByteArray.empty, .string ByteArray.empty, .int .i64 0, .string ByteArray.empty, .int .u64 0, .int .i64 0, .string ByteArray.empty]
theorem one_all {cs : Array Value} (h : cs.all (·.oneCell') = true) : ∀ u ∈ cs.toList, u.oneCell' = true := by
  rw [Array.all_eq_true'] at h
  intro u hu
  exact h u (by simpa using hu)
set_option maxRecDepth 100000 in
set_option maxHeartbeats 1000000 in
theorem cfrom_one (lb lc path : Nat) (tx : ByteArray) (out : Nat) (l : Lk) (w : World) (hE : Ent1 w lb tx out l) :
    Calls Tryz.prog 126 #[.int .i64 path, .slice (some ⟨lb, 0, none⟩) 1 lc] w fun e w' => ∃ g c, e = .returned (.slice (some ⟨g, 0, none⟩) 1 c) ∧ w.heap.size ≤ g ∧ Ins1 w' g tx out path ByteArray.empty ∧ Below w.heap.size w w' := by
  obtain ⟨i0, hi, hz0, hz1, hz2⟩ := info_parts Tryz.infoIn4
  have Hhz := Lib.hid hz0
  clear hz0
  obtain ⟨cur, he, ee, se⟩ := hE
  have HE := Lib.hid he
  clear he
  go_enter Tryz.func126, Tryz.ntmps126
  go_wp2_with fail
  refine wp_loop_rounds 2 ?_
  rw [rounds_succ]
  go_wp2_with (first
    | (refine wpList_load_blk rfl 59 (.tmp 12) rfl lb 0 11 HE.out (entC tx out l) (by rfl) ee Tryz.underlying59 infoEnt se ?_)
    | (refine wpList_store_part rfl 59 (.tmp 7) (.tmp 13) rfl w.heap.size 0 (cs := zEnt) (Blk.new _ _ _) (entC tx out l) (entC tx out l) (by rfl) (by rfl) (Nat.le_refl 11) infoEnt (entC_one _ _ _) ((over_full (entC tx out l).toList zEnt rfl).trans (Array.toArray_toList ..)) ?_; intro W1 hb1 hc1; have HX1 := Lib.hid hb1; have HB1 : Hid (Below w.heap.size w W1) := ((Below.refl _ _).alloc (Nat.le_refl _) _).trans (hc1.below (by simp) (by simp)); clear hb1 hc1)
    | (refine wpList_load_blk rfl 54 (.tmp 15) rfl w.heap.size 0 2 HX1.out #[.string tx, .int .i64 out] (by rfl) (by rfl) Tryz.underlying54 infoPnt (by show 2 ≤ 11; omega) ?_)
    | (at_builtin; go_must (refine wpList_append_own _ rfl (.tmp 14) (.tmp 19) _ rfl w.heap.size 74 i0 _ 4 48 Tryz.underlying65 hi Hhz.out hz1 hz2 rfl (by decide) _ 0 [] rfl (own_nil _ _ _ _) ⟨W1.heap.size, 0, none⟩ 1 1 (inC tx out path ByteArray.empty).toList rfl rfl (news_alloc _ _ _ _ _ rfl rfl) (one_all (inC_one _ _ _ _)) (by simp only [maxLen]; omega) (by omega) (by have := HB1.out.size; simp; omega) ?_); intro v' w2 hown1 hg1 _))
  have HO2 := Lib.hid hown1
  have HB2 : Hid (Below w.heap.size w w2) := (HB1.out.alloc HB1.out.size _).grown hg1 (by have := HB1.out.size; simp; omega) (fun j hj => by cases hj)
  clear hown1 hg1
  rw [rounds_succ]
  obtain ⟨g, c, cur2, rfl, g1, g2, g3, g4⟩ := own_one HO2.out rfl
  go_wp2
  go_ret
  exact ⟨g, c, rfl, g1, ⟨cur2, g2, g3, g4⟩, HB2.out⟩
set_option maxRecDepth 100000 in
set_option maxHeartbeats 1000000 in
theorem clook_ok (tb eb gi ci go co : Nat) (tx : ByteArray) (out path : Nat) (sig : ByteArray) (am : Nat) (key : ByteArray) (u : FrameMode) (w : World) (hT : Blk w tb 70 (txC gi ci go co)) (hE : Blk w eb 28 #[.int .i64 0]) (hI : Ins1 w gi tx out path sig) (hO : Outs1 w go am key) (h1 : tx.size = 16) (h2 : out ≤ 255) (h3 : 1 ≤ path) (h4 : path ≤ 3) (h5 : sig.size ≤ 400) (h6 : 0 < am) (h7 : key.size = 16) :
    CallsD Tryz.prog 124 #[.pointer (some ⟨tb, 0, none⟩), .pointer (some ⟨eb, 0, none⟩)] u w fun e u' w' => u' = u ∧ e = .returned (.tuple #[]) ∧ Below w.heap.size w w' := by
  have HR := Lib.hid (cright_one gi ci go co tx out path sig am key w hI hO h1 h2 h3 h4 h5 h6 h7)
  have HT := Lib.hid hT
  have HE := Lib.hid hE
  have e0 : w.cell? ⟨eb, 0, none⟩ = some (.int .i64 0) := hE.cell 0
  clear hT hE hI hO
  go_enter_d Tryz.func124, Tryz.ntmps124
  go_wp2_with (first
    | (refine wpList_load_blkG (by rfl) 70 (.tmp 10) rfl tb 0 6 HT.out (txC gi ci go co) (by rfl) (by rfl) Tryz.underlying70 infoTx (by show 6 ≤ 6; omega) ?_))
  refine HR.out.mono ?_
  rintro e w1 ⟨rfl, hb1⟩
  have f0 : w1.cell? ⟨eb, 0, none⟩ = some (.int .i64 0) := (HE.out.bel hb1).cell 0
  have HB1 := Lib.hid hb1
  clear hb1
  go_wp2
  go_end0
  exact ⟨rfl, HB1.out⟩
end Go.Proofs.YtmbceheafjadhaaGreat
namespace Go.Proofs.YtmbceheafjadhaaGreat
open Go.RowKit Go.Maps
theorem Tryz.infoOut9 : (Tryz.prog.info? 57).map (fun i => (i.zero, i.size, i.bytes)) = some (some (.agg #[.int .i64 0, .int .u64 0, .string ByteArray.empty, .string ByteArray.empty, .int .i64 0, .string ByteArray.empty, .int .u64 0, .int .i64 0, .string ByteArray.empty]), 9, 104) := by kernel_rfl
theorem ext_news {w : World} {g k : Nat} {t : TypeId} {cur cs : Array Value} (h : Blk w g t cur) (he : cur.extract 0 (0 + k) = cs) : ∀ j u, cs.toList[j]? = some u → w.cell? ((⟨g, 0, none⟩ : Addr).add j) = some u := by
  intro j u hu
  subst he
  rw [addr_add0, h.cell]
  simp only [Array.getElem?_toList, Array.getElem?_extract, Nat.zero_add] at hu
  split at hu
  · exact hu
  · cases hu
set_option maxRecDepth 100000 in
set_option maxHeartbeats 400000 in
theorem clone_in (gi ci : Nat) (tx : ByteArray) (out path : Nat) (sig : ByteArray) (w : World) (hI : Ins1 w gi tx out path sig) :
    Calls Tryz.prog 104 #[.slice (some ⟨gi, 0, none⟩) 1 ci] w fun e w' => ∃ g c, e = .returned (.slice (some ⟨g, 0, none⟩) 1 c) ∧ w.heap.size ≤ g ∧ Ins1 w' g tx out path sig ∧ Below w.heap.size w w' := by
  obtain ⟨i0, hi, hz0, hz1, hz2⟩ := info_parts Tryz.infoIn4
  have Hhz := Lib.hid hz0
  clear hz0
  obtain ⟨cur, he, ee, se⟩ := hI
  have HE := Lib.hid he
  clear he
  have qT : ∀ (w : World) (a : Option Addr) (n c n' c' : Nat), (binOp .eql 65 (.slice a n c) (.slice none n' c')).run Tryz.prog w = .ok (.bool a.isNone) w := fun w a n c n' c' => Lib.run_eql_slice_nil w _ _ a n c n' c' Tryz.underlying65
  go_enter Tryz.func104, Tryz.ntmps104
  go_wp2_with (first
    | (at_builtin; go_must (refine wpList_append_own _ rfl (.tmp 5) (.tmp 6) _ rfl w.heap.size 74 i0 _ 4 48 Tryz.underlying65 hi Hhz.out hz1 hz2 rfl (by decide) _ 0 [] rfl (own_empty (Blk.new _ _ _) (Nat.le_refl _)) ⟨gi, 0, none⟩ 1 ci (inC tx out path sig).toList rfl rfl (ext_news (HE.out.alloc _) ee) (one_all (inC_one _ _ _ _)) (by simp only [maxLen]; omega) (by omega) (by simp) ?_); intro v' w2 hown1 hg1 _))
  have HO2 := Lib.hid hown1
  have HB2 : Hid (Below w.heap.size w w2) := ((Below.refl w.heap.size w).alloc (Nat.le_refl _) _).grown hg1 (by simp) (fun j hj => by cases hj; exact Nat.le_refl _)
  clear hown1 hg1
  obtain ⟨g, c, cur2, rfl, g1, g2, g3, g4⟩ := own_one HO2.out rfl
  go_wp2
  go_ret
  exact ⟨g, c, rfl, g1, ⟨cur2, g2, g3, g4⟩, HB2.out⟩
set_option maxRecDepth 100000 in
set_option maxHeartbeats 400000 in
theorem clone_out (go co am : Nat) (key : ByteArray) (w : World) (hO : Outs1 w go am key) :
    Calls Tryz.prog 105 #[.slice (some ⟨go, 0, none⟩) 1 co] w fun e w' => ∃ g c, e = .returned (.slice (some ⟨g, 0, none⟩) 1 c) ∧ w.heap.size ≤ g ∧ Outs1 w' g am key ∧ Below w.heap.size w w' := by
  obtain ⟨i0, hi, hz0, hz1, hz2⟩ := info_parts Tryz.infoOut9
  have Hhz := Lib.hid hz0
  clear hz0
  obtain ⟨cur, he, ee, se⟩ := hO
  have HE := Lib.hid he
  clear he
  have qT : ∀ (w : World) (a : Option Addr) (n c n' c' : Nat), (binOp .eql 22 (.slice a n c) (.slice none n' c')).run Tryz.prog w = .ok (.bool a.isNone) w := fun w a n c n' c' => Lib.run_eql_slice_nil w _ _ a n c n' c' Tryz.underlying22
  go_enter Tryz.func105, Tryz.ntmps105
  go_wp2_with (first
    | (at_builtin; go_must (refine wpList_append_own _ rfl (.tmp 5) (.tmp 6) _ rfl w.heap.size 57 i0 _ 9 104 Tryz.underlying22 hi Hhz.out hz1 hz2 rfl (by decide) _ 0 [] rfl (own_empty (Blk.new _ _ _) (Nat.le_refl _)) ⟨go, 0, none⟩ 1 co (payC am key).toList rfl rfl (ext_news (HE.out.alloc _) ee) (one_all (payC_one _ _)) (by simp only [maxLen]; omega) (by omega) (by simp) ?_); intro v' w2 hown1 hg1 _))
  have HO2 := Lib.hid hown1
  have HB2 : Hid (Below w.heap.size w w2) := ((Below.refl w.heap.size w).alloc (Nat.le_refl _) _).grown hg1 (by simp) (fun j hj => by cases hj; exact Nat.le_refl _)
  clear hown1 hg1
  obtain ⟨g, c, cur2, rfl, g1, g2, g3, g4⟩ := own_one HO2.out rfl
  go_wp2
  go_ret
  exact ⟨g, c, rfl, g1, ⟨cur2, g2, g3, g4⟩, HB2.out⟩
set_option maxHeartbeats 400000 in
theorem clone_none (w : World) :
    Calls Tryz.prog 106 #[.slice none 0 0] w fun e w' => e = .returned (.slice none 0 0) ∧ w' = w := by
  have qT : ∀ (w : World) (a : Option Addr) (n c n' c' : Nat), (binOp .eql 66 (.slice a n c) (.slice none n' c')).run Tryz.prog w = .ok (.bool a.isNone) w := fun w a n c n' c' => Lib.run_eql_slice_nil w _ _ a n c n' c' Tryz.underlying66
  go_enter Tryz.func106, Tryz.ntmps106
  go_wp2
  go_ret
  exact ⟨rfl, rfl⟩
end Go.Proofs.YtmbceheafjadhaaGreat
namespace Go.Proofs.YtmbceheafjadhaaGreat
open Go.RowKit Go.Maps
def outB (am : Nat) (key : ByteArray) (s : ByteArray) : ByteArray := s ++ strOfNums [1] ++ putB am ++ key
def coreB (tx : ByteArray) (out path : Nat) (am : Nat) (key : ByteArray) : ByteArray := outB am key (ByteArray.empty ++ strOfNums [67] ++ strOfNums [1] ++ tx ++ strOfNums [(out : Int)] ++ strOfNums [(path : Int)] ++ strOfNums [1])
theorem coreB_size (tx : ByteArray) (out path : Nat) (am : Nat) (key : ByteArray) (h1 : tx.size = 16) (h2 : key.size = 16) : (coreB tx out path am key).size = 46 := by
  simp only [coreB, outB, ByteArray.size_append, num1_size, putB_size, h1, h2]
  rfl
set_option maxRecDepth 100000 in
set_option maxHeartbeats 2000000 in
theorem cput_pay (b am : Nat) (key s : ByteArray) (w : World) (h2 : key.size = 16) (ham : am < 18446744073709551616) (hs : s.size ≤ 900000) (h : WrAt w b s) :
    Calls Tryz.prog 115 #[.pointer (some ⟨b, 0, none⟩), .agg (payC am key)] w fun e w' => e = .returned (.tuple #[]) ∧ WrAt w' b (outB am key s) ∧ Ch [b] w w' := by
  have H := Lib.hid h
  have hb : b < w.heap.size := Blk.lt h
  clear h
  unfold payC outB
  go_enter Tryz.func115, Tryz.ntmps115
  go_wp2_with fail
  refine (wbyte_ok b s 1 _ (by decide) (by decide) (by omega) (H.out.ch (Ch.alloc [] _ _) (by simp))).mono ?_
  rintro e w1 ⟨rfl, h1, k1⟩
  have HP : Hid (Blk w1 w.heap.size 57 (payC am key)) := Blk.ch (Blk.new _ _ _) k1 (by simp; omega)
  have p1 := HP.out.cell 1
  have p2 := HP.out.cell 2
  have p0 := HP.out.cell 0
  simp [payC] at p0 p1 p2
  have K1 : Hid (Ch [b] w w1) := (Ch.alloc _ _ _).trans k1
  have H1 := Lib.hid h1
  clear h1 k1
  go_wp2_with fail
  refine (wnum_ok b _ am _ ham (by rw [ByteArray.size_append, num1_size]; omega) H1.out).mono ?_
  rintro e w2 ⟨rfl, h2, k2⟩
  have HP2 : Hid (Blk w2 w.heap.size 57 (payC am key)) := Blk.ch HP.out k2 (by simp; omega)
  have q2 := HP2.out.cell 2
  have q0 := HP2.out.cell 0
  simp [payC] at q0 q2
  have K2 : Hid (Ch [b] w w2) := K1.out.trans k2
  have H2 := Lib.hid h2
  clear h2 k2
  go_wp2_with fail
  refine (whash_ok b _ key _ (by assumption) (by rw [ByteArray.size_append, ByteArray.size_append, num1_size, putB_size]; omega) H2.out).mono ?_
  rintro e w3 ⟨rfl, h3, k3⟩
  have HP3 : Hid (Blk w3 w.heap.size 57 (payC am key)) := Blk.ch HP2.out k3 (by simp; omega)
  have r0 := HP3.out.cell 0
  simp [payC] at r0
  have K3 : Hid (Ch [b] w w3) := K2.out.trans k3
  have H3 := Lib.hid h3
  clear h3 k3
  go_wp2_with fail
  refine bodyPost_ret (results_none rfl _ _ _) rfl ?_
  exact ⟨rfl, H3.out, K3.out⟩
def zOutC : Array Value := #[.int .i64 0, .int .u64 0, .string ByteArray.empty, .string ByteArray.empty, .int .i64 0, .string ByteArray.empty, .int .u64 0, .int .i64 0, .string ByteArray.empty]
set_option maxRecDepth 100000 in
set_option maxHeartbeats 1000000 in
theorem ccore_one (gi ci go co : Nat) (tx : ByteArray) (out path : Nat) (sig : ByteArray) (am : Nat) (key : ByteArray) (w : World) (hI : Ins1 w gi tx out path sig) (hO : Outs1 w go am key) (h1 : tx.size = 16) (h2 : out ≤ 255) (h3 : 1 ≤ path) (h4 : path ≤ 3) (h5 : sig.size ≤ 400) (h6 : 0 < am) (h7 : key.size = 16) (h8 : am < 18446744073709551616) :
    Calls Tryz.prog 37 #[.agg (txC gi ci go co)] w fun e w' => e = .returned (.string (coreB tx out path am key)) ∧ Below w.heap.size w w' := by
  have HR := fun W hI hO => Lib.hid (cright_one gi ci go co tx out path sig am key W hI hO h1 h2 h3 h4 h5 h6 h7)
  have HP := fun W b s hs h => Lib.hid (cput_pay b am key s W h7 h8 hs h)
  have HI := Lib.hid hI
  have HO := Lib.hid hO
  clear hI hO
  unfold txC
  go_enter Tryz.func37, Tryz.ntmps37
  go_wp2_with (first | (refine wpList_load_blk rfl 70 (.tmp 1) rfl w.heap.size 0 6 (Blk.new _ _ _) (txC gi ci go co) (by rfl) (by rfl) Tryz.underlying70 infoTx (Nat.le_refl 6) ?_))
  have HB0 : Hid (Below w.heap.size w (w.alloc (.cells (txC gi ci go co) 70))) := (Below.refl _ _).alloc (Nat.le_refl _) _
  refine (HR _ (HI.out.bel HB0.out) (HO.out.bel HB0.out)).out.mono ?_
  rintro e w1 ⟨rfl, hb1⟩
  have HT1 := Lib.hid ((Blk.new w 70 (txC gi ci go co)).bel hb1)
  have HB1 : Hid (Below w.heap.size w w1) := HB0.out.trans (hb1.mono HB0.out.size)
  clear hb1 HB0
  go_wp2_with fail
  refine (wbyte_ok w1.heap.size ByteArray.empty 67 _ (by decide) (by decide) (by simp) (Blk.new _ _ _)).mono ?_
  rintro e w2 ⟨rfl, h2', k2⟩
  have hlt1 : w.heap.size < w1.heap.size := HT1.out.lt
  have HW2 := Lib.hid h2'
  have HB2 : Hid (Below w1.heap.size w1 w2) := ((Below.refl _ _).alloc (Nat.le_refl _) _).trans (k2.below (by simp) (by simp))
  have HT2 := Lib.hid (HT1.out.bel HB2.out)
  have p0 : w2.cell? ⟨w.heap.size, 0, none⟩ = some (.slice (some ⟨gi, 0, none⟩) 1 ci) := HT2.out.cell 0
  clear h2' k2
  go_wp2_with fail
  refine (wbyte_ok w1.heap.size _ 1 _ (by decide) (by decide) (by rw [ByteArray.size_append, num1_size]; simp) HW2.out).mono ?_
  rintro e w3 ⟨rfl, h3', k3⟩
  have HW3 := Lib.hid h3'
  have HB3 : Hid (Below w1.heap.size w1 w3) := HB2.out.trans (k3.below HB2.out.size (by simp))
  have HT3 := Lib.hid (HT1.out.bel HB3.out)
  have q0 : w3.cell? ⟨w.heap.size, 0, none⟩ = some (.slice (some ⟨gi, 0, none⟩) 1 ci) := HT3.out.cell 0
  clear h3' k3 p0
  go_wp2_with fail
  have HB3w : Hid (Below w.heap.size w w3) := HB1.out.trans (HB3.out.mono HB1.out.size)
  obtain ⟨cur, hi, ei, si⟩ := HI.out.bel HB3w.out
  have HII := Lib.hid hi
  clear hi q0
  refine wp_loop_rounds 2 ?_
  rw [rounds_succ]
  go_wp2_with (first
    | (refine wpList_load_blk rfl 74 (.tmp 21) rfl gi 0 4 HII.out (inC tx out path sig) (by rfl) ei Tryz.underlying74 infoIn si ?_)
    | (refine wpList_store_part rfl 74 (.tmp 5) (.tmp 22) rfl w3.heap.size 0 (cs := inC ByteArray.empty 0 0 ByteArray.empty) (Blk.new _ _ _) (inC tx out path sig) (inC tx out path sig) (by rfl) (by rfl) (Nat.le_refl 4) infoIn (inC_one _ _ _ _) ((over_full (inC tx out path sig).toList (inC ByteArray.empty 0 0 ByteArray.empty) rfl).trans (Array.toArray_toList ..)) ?_; intro W4 hb4 hc4; have HX4 := Lib.hid hb4; have HC4 := Lib.hid hc4; have x0 : W4.cell? ⟨w3.heap.size, 0, none⟩ = some (.string tx) := hb4.cell 0; clear hb4 hc4))
  have hlt3 : w1.heap.size < w3.heap.size := Blk.lt HW3.out
  have hb34 : Below w3.heap.size w3 W4 := ((Below.refl _ _).alloc (Nat.le_refl _) _).trans (HC4.out.below (by simp) (by simp))
  have HW4 : Hid (WrAt W4 w1.heap.size _) := Blk.bel HW3.out hb34
  have HB4 : Hid (Below w1.heap.size w1 W4) := HB3.out.trans (hb34.mono HB3.out.size)
  clear hb34 HC4
  refine (whash_ok w1.heap.size _ tx _ h1 (by simp only [ByteArray.size_append, num1_size]; simp) HW4.out).mono ?_
  rintro e w5 ⟨rfl, h5', k5⟩
  have HW5 := Lib.hid h5'
  have HX5 : Hid (Blk w5 w3.heap.size 74 (inC tx out path sig)) := Blk.ch HX4.out k5 (by simp; omega)
  have HB5 : Hid (Below w1.heap.size w1 w5) := HB4.out.trans (k5.below HB4.out.size (by simp))
  have x1 : w5.cell? ⟨w3.heap.size, 1, none⟩ = some (.int .i64 out) := HX5.out.cell 1
  clear h5' k5
  go_wp2_with fail
  refine (wbyte_ok w1.heap.size _ out _ (by omega) (by omega) (by simp only [ByteArray.size_append, num1_size, h1]; simp) HW5.out).mono ?_
  rintro e w6 ⟨rfl, h6', k6⟩
  have HW6 := Lib.hid h6'
  have HX6 : Hid (Blk w6 w3.heap.size 74 (inC tx out path sig)) := Blk.ch HX5.out k6 (by simp; omega)
  have HB6 : Hid (Below w1.heap.size w1 w6) := HB5.out.trans (k6.below HB5.out.size (by simp))
  have x2 : w6.cell? ⟨w3.heap.size, 2, none⟩ = some (.int .i64 path) := HX6.out.cell 2
  clear h6' k6 x1
  go_wp2_with fail
  refine (wbyte_ok w1.heap.size _ path _ (by omega) (by omega) (by simp only [ByteArray.size_append, num1_size, h1]; simp) HW6.out).mono ?_
  rintro e w7 ⟨rfl, h7', k7⟩
  have HW7 := Lib.hid h7'
  have HB7 : Hid (Below w1.heap.size w1 w7) := HB6.out.trans (k7.below HB6.out.size (by simp))
  have HT7 := Lib.hid (HT1.out.bel HB7.out)
  have y1 : w7.cell? ⟨w.heap.size, 1, none⟩ = some (.slice (some ⟨go, 0, none⟩) 1 co) := HT7.out.cell 1
  clear h7' k7 x2
  go_wp2_with fail
  rw [rounds_succ]
  go_wp2_with fail
  refine (wbyte_ok w1.heap.size _ 1 _ (by decide) (by decide) (by simp only [ByteArray.size_append, num1_size, h1]; simp) HW7.out).mono ?_
  rintro e w8 ⟨rfl, h8', k8⟩
  have HW8 := Lib.hid h8'
  have HB8 : Hid (Below w1.heap.size w1 w8) := HB7.out.trans (k8.below HB7.out.size (by simp))
  have HT8 := Lib.hid (HT1.out.bel HB8.out)
  have z1 : w8.cell? ⟨w.heap.size, 1, none⟩ = some (.slice (some ⟨go, 0, none⟩) 1 co) := HT8.out.cell 1
  have HB8w : Hid (Below w.heap.size w w8) := HB1.out.trans (HB8.out.mono HB1.out.size)
  obtain ⟨curO, ho, eo, so⟩ := HO.out.bel HB8w.out
  have HOO := Lib.hid ho
  have hlt8 : w1.heap.size < w8.heap.size := Blk.lt HW8.out
  clear h8' k8 y1 ho
  go_wp2_with fail
  refine wp_loop_rounds 2 ?_
  rw [rounds_succ]
  go_wp2_with (first
    | (refine wpList_load_blk rfl 57 (.tmp 44) rfl go 0 9 HOO.out (payC am key) (by rfl) eo Tryz.underlying57 infoOutC so ?_)
    | (refine wpList_store_part rfl 57 (.tmp 7) (.tmp 45) rfl w8.heap.size 0 (cs := zOutC) (Blk.new _ _ _) (payC am key) (payC am key) (by rfl) (by rfl) (Nat.le_refl 9) infoOutC (payC_one _ _) ((over_full (payC am key).toList zOutC rfl).trans (Array.toArray_toList ..)) ?_; intro W9 hb9 hc9; have HX9 := Lib.hid hb9; have HC9 := Lib.hid hc9; clear hb9 hc9)
    | (refine wpList_load_blk rfl 57 (.tmp 7) rfl w8.heap.size 0 9 HX9.out (payC am key) (by rfl) (by rfl) Tryz.underlying57 infoOutC (Nat.le_refl 9) ?_))
  have hb89 : Below w8.heap.size w8 W9 := ((Below.refl _ _).alloc (Nat.le_refl _) _).trans (HC9.out.below (by simp) (by simp))
  have HW9 : Hid (WrAt W9 w1.heap.size _) := Blk.bel HW8.out hb89
  have HB9 : Hid (Below w1.heap.size w1 W9) := HB8.out.trans (hb89.mono HB8.out.size)
  clear hb89 HC9
  refine (HP _ _ _ (by simp only [ByteArray.size_append, num1_size, h1]; simp) HW9.out).out.mono ?_
  rintro e w10 ⟨rfl, h10, k10⟩
  have HW10 := Lib.hid h10
  have HB10 : Hid (Below w1.heap.size w1 w10) := HB9.out.trans (k10.below HB9.out.size (by simp))
  clear h10 k10
  go_wp2_with fail
  rw [rounds_succ]
  go_wp2_with fail
  refine (wtext_ok w1.heap.size _ _ HW10.out).mono ?_
  rintro e w11 ⟨rfl, rfl⟩
  go_wp2
  go_ret
  exact ⟨rfl, HB1.out.trans (HB10.out.mono HB1.out.size)⟩
end Go.Proofs.YtmbceheafjadhaaGreat
