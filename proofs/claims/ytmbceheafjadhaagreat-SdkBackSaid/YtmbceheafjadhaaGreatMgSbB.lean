/- SdkBack: the walk. -/
import Derived.Outline
import Derived.Deep.RegionHeld3
import Derived.Test.YtmbceheafjadhaaGreatMgEqE
import Derived.Test.YtmbceheafjadhaaGreatMgFixB
import Derived.Test.YtmbceheafjadhaaGreatMgG24
import Derived.Test.YtmbceheafjadhaaGreatMgG34
import Derived.Test.YtmbceheafjadhaaGreatMgG38
import Derived.Test.YtmbceheafjadhaaGreatMgSdkC
import Derived.Test.YtmbceheafjadhaaGreatMgSdkD
import Derived.Test.YtmbceheafjadhaaGreatMgSgC
import Derived.Test.YtmbceheafjadhaaGreatMgUtX
set_option linter.unusedVariables false
set_option linter.unusedSimpArgs false
namespace Go.Proofs.YtmbceheafjadhaaGreat
open Go.RowKit Go.Maps
theorem build_ouS (o : Ou) (W : World) : (Instr.buildSlice 22 1 #[(0, .agg o.cs)]).run Tryz.prog W = .ok (.slice (some ⟨W.heap.size, 0, none⟩) 1 1) (W.alloc (.cells o.cs 57)) := by
  kernel_rfl
theorem wpList_build_ouS {ops : Array Oper} {rest : List Oper} {o : Oper} {a : Act} {w : World} {Q : Exit → Act → World → Prop} (hg : o.guard = none) (x : Operand) (ho : o.op = .buildSlice 22 1 #[(0, x)]) (y : Ou) (hx : a.eval x = .agg y.cs)
    (h : wpList Tryz.prog ops Q rest (a.put o.dst (.slice (some ⟨w.heap.size, 0, none⟩) 1 1)) (w.alloc (.cells y.cs 57))) : wpList Tryz.prog ops Q (o :: rest) a w :=
  wpList_plain hg fun _ hK => by
    have e : ((#[(0, x)] : Array (Nat × Operand)).map fun (i, x) => (i, a.eval x)) = #[(0, .agg y.cs)] := by simp [hx]
    unfold Oper.wp execOp
    simp only [ho, Sem.run_bind, e, build_ouS, Result.andThen_ok]
    exact hK _ _ h
theorem tok_newS {l : List Ou} (hn : newU l = true) (h8 : l.length ≤ 8) (ha : ∀ o ∈ l, o.am < 18446744073709551616 ∧ o.unit < 18446744073709551616) : TOk (utN (firstB l) l) := by
  unfold newU at hn
  simp only [Bool.and_eq_true, decide_eq_true_eq, List.all_eq_true] at hn
  have hm : ∀ e ∈ utN (firstB l) l, e.o ∈ l ∧ e.okp := fun e he => by
    obtain ⟨i, hi, rfl⟩ := List.mem_mapIdx.1 (show e ∈ l.mapIdx _ from he)
    exact ⟨List.getElem_mem hi, tagB_size _ _, by show (0 : Int) ≤ (i : Int); omega, by show (i : Int) < 256; omega⟩
  exact ⟨by rw [utN_len]; omega, by rw [utN_len]; omega, fun e he => hn.2 _ (hm e he).1, fun e he => (ha _ (hm e he).1).1, fun e he => (ha _ (hm e he).1).2, fun e he => (hm e he).2⟩
theorem Ut.objS {w : World} {b : Nat} {T : List En} (h : Ut w b T) : (∀ cs t fr, w.heap[b]? ≠ some (Obj.cells cs t fr)) := by
  obtain ⟨D, ⟨es, clock, hb, _⟩, _⟩ := h.own
  intro cs t fr e
  rw [hb] at e; cases e
theorem KeyAt.setU {w w' : World} {kb cb h i sb b : Nat} {seed : ByteArray} {T : List En} (k : KeyAt w kb cb seed h i) (s : SetAt w sb b T) (hc : Ch [b] w w') : KeyAt w' kb cb seed h i := by
  obtain ⟨cs, hk⟩ := k.hd
  refine k.ch hc (by have := s.ut.ne_blk hk; simpa using Ne.symm this) (by have := s.ut.ne_blk k.cnt; simpa using Ne.symm this) (fun g hg cs fr => ?_)
  simp at hg; subst hg
  exact s.ut.objS cs _ fr
theorem SetAt.chS {S : List Nat} {w w' : World} {sb b : Nat} {T : List En} (s : SetAt w sb b T) (hc : Ch S w w') (h1 : sb ∉ S) (h2 : b ∉ S) : SetAt w' sb b T := ⟨s.hd.ch hc h1, s.ut.ch hc h2⟩
theorem step_load_row {ops : Array Oper} {o : Oper} {a : Act} {w : World} {K : Act → World → Prop} {Q : Exit → Act → World → Prop} {E : Prop} (hw : Region.wanted o (yielded ops a.tmps) = true) (ty : TypeId) (x : Operand) (ho : o.op = .load ty x)
    (b off : Nat) {fs : Array Field} (cl : List Value) (hc : ∀ j u, cl[j]? = some u → w.cell? ⟨b, off + j, none⟩ = some u) (part : Array Value) (hx : a.eval x = .pointer (some ⟨b, off, none⟩)) (hp : cl.toArray = part)
    (hu : Tryz.prog.underlying ty = some (.struct fs)) (hi : (Tryz.prog.info? ty).map (·.size) = some cl.length) (h : K (a.put o.dst (.agg part)) w) : if Region.wanted o (yielded ops a.tmps) = true then Oper.wp Tryz.prog o a w K Q else E := by
  subst hp
  rw [if_pos hw]
  exact wp_load_mid ty x ho b off hx cl _ hc hu rfl hi h
theorem yields_eql {ops : Array Oper} {S : World → Prop} {o : Oper} {a : Act} (hw : Region.wanted o (yielded ops a.tmps) = true) (ty : TypeId) (x y : Operand) {n} (ho : o.op = .binOp .eql ty x y n) (xs ys : Array Value) (hx : a.eval x = .agg xs) (hy : a.eval y = .agg ys) (r : Bool)
    (hg : ∀ W, (eqGuard .eql ty x y (.agg xs) (.agg ys)).run Tryz.prog W = .ok () W) (hb : ∀ W, (binOp .eql ty (.agg xs) (.agg ys)).run Tryz.prog W = .ok (.bool r) W) : YieldsIf Tryz.prog ops S o (.bool r) a :=
  .inl ⟨hw, fun W _ => by
    unfold execOp
    simp only [ho, hx, hy, Sem.run_bind, hg, hb, Result.andThen_ok, Sem.run_pure]⟩
variable {w : World} {cb kb ctr pb mb h n i out am tk : Nat} {seed tx : ByteArray} {l : Lk} {D : DU}
set_option maxRecDepth 100000 in
theorem sroot_blk (h1 : Blk w cb 252 (clC kb pb mb tx out l am tk)) (h2 : KeyAt w kb ctr seed h i) :
    Calls Tryz.prog 68 #[.pointer (some ⟨cb, 0, none⟩)] w fun e w' => e = .returned (.string (rootB seed h)) ∧ w' = w := by
  have c0 := h1.cell 0
  simp [clC] at c0
  clear h1
  go_enter Tryz.func68, Tryz.ntmps68
  go_wp2_with fail
  refine (kroot_any kb ctr seed h i w h2).mono ?_
  rintro e w1 ⟨rfl, rfl⟩
  go_wp2
  go_ret
  exact ⟨rfl, rfl⟩
/-- the lock of a channel as an output -/
def lkO (l : Lk) : Ou := lockO l.am l.key l.gate (l.ex : Int) l.anchor l.unit (l.tok : Int)
theorem lkO_ent (tx : ByteArray) (l : Lk) : (⟨tx, 0, lkO l⟩ : En).cs = entC tx 0 l := rfl
theorem lkO_fits {l : Lk} (h : l.ok) : fitsB (lkO l) = true := lock_fits h.am.1 h.key h.gate h.anchor ⟨by have := h.ex.1; omega, by have := h.ex.2; omega⟩ ⟨by omega, by have := h.tok; omega⟩
theorem sl_ou1 (o : Ou) (W : World) : Sl (W.alloc (.cells o.cs 57)) (W.alloc (.cells o.cs 57)).heap.size 9 Ou.cl (some ⟨W.heap.size, 0, none⟩) [o] := sl_part (Blk.new _ _ _) (by rfl) rfl (Nat.le_refl 9)
theorem room_0 {tm u lam : Nat} (h1 : tm ≤ lam) (h2 : lam < 18446744073709551616) : roomE tm 0 u lam (.map []) = 0 := by
  have e : bdT tm 0 u (.map []) = tm := by simp [bdT, allD, sD, totI]
  have h0 : bdOk tm 0 u (.map []) := ⟨by rw [Nat.zero_mul]; decide, by rw [e]; omega⟩
  exact if_pos ⟨h0, by rw [e]; omega⟩
/-- the client, what it locks and what is unspent -/
structure SbS (w0 : World) (cb kb ctr pb mb : Nat) (sd : ByteArray) (tx : ByteArray) (l : Lk) (sb b k : Nat) (w : World) : Prop where
  cl : CIn w cb kb ctr pb mb sd 1 5 k tx 0 l k 0 (.map [])
  set : SetAt w sb b [⟨tx, 0, lkO l⟩]
  bel : Below w0.heap.size w0 w
theorem SbS.go {w0 w w' : World} {cb kb ctr pb mb sb b k : Nat} {sd tx : ByteArray} {l : Lk} (h : SbS w0 cb kb ctr pb mb sd tx l sb b k w) (hb : Below w.heap.size w w') : SbS w0 cb kb ctr pb mb sd tx l sb b k w' := ⟨h.cl.bel hb, h.set.bel hb, h.bel.trans (hb.mono h.bel.size)⟩
theorem SbS.sbne {w0 w : World} {cb kb ctr pb mb sb b k : Nat} {sd tx : ByteArray} {l : Lk} (h : SbS w0 cb kb ctr pb mb sd tx l sb b k w) : (sb ≠ cb ∧ sb ≠ ctr) ∧ b ≠ cb ∧ b ≠ ctr := by
  obtain ⟨vl, k1, k2, k3⟩ := h.cl.2.1
  exact ⟨⟨h.set.hd.ne_ h.cl.1 (by decide), h.set.hd.ne_ k2 (by decide)⟩, h.set.ut.ne_blk h.cl.1, h.set.ut.ne_blk k2⟩
theorem SbS.step {w0 w w' : World} {cb kb ctr pb mb sb b k k' : Nat} {sd tx : ByteArray} {l : Lk} (h : SbS w0 cb kb ctr pb mb sd tx l sb b k w) (hc : Ch [cb, ctr] w w') (hx : w0.heap.size ≤ cb ∧ w0.heap.size ≤ ctr) (hk : CIn w' cb kb ctr pb mb sd 1 5 k' tx 0 l k' 0 (.map [])) : SbS w0 cb kb ctr pb mb sd tx l sb b k' w' := by
  obtain ⟨⟨a1, a2⟩, a3, a4⟩ := h.sbne
  exact ⟨hk, h.set.chS hc (by simp [a1, a2]) (by simp [a3, a4]), h.bel.trans (hc.below h.bel.size (by intro x hx'; simp at hx'; rcases hx' with rfl | rfl <;> omega))⟩
theorem bel_drewN (w : World) (n : Nat) : Below w.heap.size w (w.drewN n) := have h := Below.refl w.heap.size w; ⟨h.os, h.tape, h.output, h.size, h.block⟩
/-- what was brought back, ahead of its being taken -/
structure SbE (w0 : World) (cb kb ctr pb mb : Nat) (sd tx : ByteArray) (l : Lk) (am i sb b g : Nat) (t : Txn) (T : List En) (w : World) : Prop where
  cl : Blk w cb 252 (clC kb pb mb tx 0 l am 0)
  key : KeyAt w kb ctr sd 1 i
  set : SetAt w sb b T
  blk : Blk w g 70 t.cs
  mem : t.mem w
  bel : Below w0.heap.size w0 w
theorem SbE.go {w0 w w' : World} {cb kb ctr pb mb am i sb b g : Nat} {sd tx : ByteArray} {l : Lk} {t : Txn} {T : List En} (h : SbE w0 cb kb ctr pb mb sd tx l am i sb b g t T w) (hb : Below w.heap.size w w') : SbE w0 cb kb ctr pb mb sd tx l am i sb b g t T w' := ⟨h.cl.bel hb, h.key.bel hb, h.set.bel hb, h.blk.bel hb, h.mem.bel hb, h.bel.trans (hb.mono h.bel.size)⟩
theorem SbE.put {w0 w w' : World} {cb kb ctr pb mb am i sb b g : Nat} {sd tx : ByteArray} {l : Lk} {t : Txn} {T T' : List En} (h : SbE w0 cb kb ctr pb mb sd tx l am i sb b g t T w) (hc : Ch [b] w w') (hs : SetAt w' sb b T') (hb : w0.heap.size ≤ b) : SbE w0 cb kb ctr pb mb sd tx l am i sb b g t T' w' :=
  ⟨h.cl.ch hc (by have := h.set.ut.ne_blk h.cl; simpa using Ne.symm this), h.key.setU h.set hc, hs, h.blk.ch hc (by have := h.set.ut.ne_blk h.blk; simpa using Ne.symm this), h.mem.map h.set.ut hc, h.bel.trans (hc.below h.bel.size (by simpa using hb))⟩
set_option maxRecDepth 100000 in
set_option maxHeartbeats 40000000 in
theorem sdkback_any (s : ByteArray) (a u : Nat) (w : World) (hs : s.size ≤ maxLen) (ha : a < 4294967296) (hu : u < 256) :
    Calls Tryz.prog 11 #[.string s, .int .u32 (a : Int), .int .u8 (u : Int)] w fun e w' => e = .returned (.bool true) ∧ Below w.heap.size w w' := by
  unfold maxLen at hs
  go_enter Tryz.func11, Tryz.ntmps11
  go_upto_region 2 with fail
  have hsz : (s.extract 0 (min (s.size : Int) 50).toNat).size ≤ 50 := by rw [ByteArray.size_extract]; omega
  generalize s.extract 0 (min (s.size : Int) 50).toNat = sd at hsz ⊢
  have HNEW := fun W => Lib.hid (snew_any sd 1 5 W (by decide) (by decide) (by decide) (by omega))
  have HSZ := Lib.hid hsz
  clear hsz
  go_wp2_with fail
  refine (HNEW _).out.mono ?_
  rintro e V ⟨cb, kb, ctr, pb, mb, rfl, ⟨hcb, hct, hmb⟩, hz, hb0⟩
  have HC := Lib.hid hz
  have HB := Lib.hid hb0
  have HSW := Lib.hid (And.intro hcb hct)
  clear hz hb0 hcb hct hmb HNEW
  have hrt := rootB_size sd 1
  have hat := tokB_size sd 5 0
  obtain ⟨l, hl⟩ : ∃ l : Lk, l = ⟨11 + a, rootB sd 1, rootB sd 1, 9, tokB sd 5 0, 1, 5⟩ := ⟨_, rfl⟩
  have HLO : Hid l.ok := Lib.hid (by rw [hl]; exact ⟨⟨by show 0 < 11 + a; omega, by show 11 + a < _; omega⟩, hrt, hrt, ⟨by show 1 ≤ 9; decide, by show 9 ≤ 4294967295; decide⟩, hat, by show 1 < 18446744073709551616; decide, by show 5 ≤ 4096; decide⟩)
  have HKY : Hid (l.key = rootB sd 1) := Lib.hid (by rw [hl])
  have HAN : Hid (l.anchor = tokB sd 5 0) := Lib.hid (by rw [hl])
  have HTK : Hid (l.tok = 5) := Lib.hid (by rw [hl])
  have HUN : Hid (l.unit = 1) := Lib.hid (by rw [hl])
  have HEX : Hid (l.ex = 9) := Lib.hid (by rw [hl])
  have HAM : Hid (l.am = 11 + a) := Lib.hid (by rw [hl])
  have K1 := fun W (k : ClZ W cb sd 1 5 0) => Lib.hid (zoutput_any (w := W) k (by omega) (11 + a) 9 1 (rootB sd 1))
  rw [show ((11 + a : Nat) : Int) = 11 + (a : Int) from by omega] at K1
  have HOU : Hid ((#[.int .i64 2, .int .u64 (11 + (a : Int)), .string (rootB sd 1), .string (rootB sd 1), .int .i64 9, .string (tokB sd 5 0), .int .u64 1, .int .i64 5, .string ByteArray.empty] : Array Value) = (lkO l).cs) := Lib.hid (by rw [hl]; show _ = #[Value.int .i64 2, .int .u64 ((11 + a : Nat) : Int), .string (rootB sd 1), .string (rootB sd 1), .int .i64 ((9 : Nat) : Int), .string (tokB sd 5 0), .int .u64 ((1 : Nat) : Int), .int .i64 ((5 : Nat) : Int), .string ByteArray.empty]; rw [show ((11 + a : Nat) : Int) = 11 + (a : Int) from by omega]; rfl)
  clear hl hrt hat
  go_wp2_with fail
  refine (zroot_any HC.out.at_).mono ?_
  rintro e V' ⟨rfl, hq⟩
  rw [hq]
  clear hq V'
  go_wp2_with fail
  refine (K1 _ HC.out.at_).out.mono ?_
  rintro e V2 ⟨rfl, hb⟩
  rw [show (#[.int .i64 2, .int .u64 (11 + (a : Int)), .string (rootB sd 1), .string (rootB sd 1), .int .i64 ((9 : Nat) : Int), .string (tokB sd 5 0), .int .u64 ((1 : Nat) : Int), .int .i64 ((5 : Nat) : Int), .string ByteArray.empty] : Array Value) = (lkO l).cs from HOU.out]
  replace HC := Lib.hid (HC.out.bel hb)
  replace HB := Lib.hid (HB.out.trans (hb.mono HB.out.size))
  clear hb K1 HOU
  go_wp2_with (first
    | (refine wpList_store_part rfl 57 (.tmp 9) (.tmp 39) rfl V2.heap.size 0 (cs := zOu.cs) (Blk.new _ _ _) (lkO l).cs (lkO l).cs (by rfl) (by rfl) (Nat.le_refl 9) infoOu9 (oucs_one _) (ouv_over _ rfl) ?_; intro V3 hb1 hc1; have hb := bel_st' hc1; have H9 := Lib.hid hb1; replace HC := Lib.hid (HC.out.bel hb); replace HB := Lib.hid (HB.out.trans (hb.mono HB.out.size)); clear hb1 hc1 hb)
    | (refine wpList_load_blk rfl 57 (.tmp 9) rfl V2.heap.size 0 9 H9.out (lkO l).cs (by rfl) (ouv_ext _) Tryz.underlying57 infoOu9 (Nat.le_refl 9) ?_)
    | (refine wpList_build_ouS rfl (.tmp 41) rfl (lkO l) (by rfl) ?_))
  have hbl : Below V3.heap.size V3 (V3.alloc (.cells (lkO l).cs 57)) := (Below.refl _ _).alloc (Nat.le_refl _) _
  replace HC := Lib.hid (HC.out.bel hbl)
  replace HB := Lib.hid (HB.out.trans (hbl.mono HB.out.size))
  clear hbl H9
  have hnw : newU [lkO l] = true := by
    simp only [newU, Bool.and_eq_true, List.all_eq_true]
    exact ⟨⟨decide_eq_true (show 1 ≤ 1 by decide), decide_eq_true (show 1 ≤ 64 by decide)⟩, fun o ho => by rw [List.mem_singleton.1 ho]; exact lkO_fits HLO.out⟩
  refine (unew_ok (some ⟨V3.heap.size, 0, none⟩) [lkO l] 1 _ (sl_ou1 _ _) hnw (fun o ho => by rw [List.mem_singleton.1 ho]; exact HLO.out.am.2)).mono ?_
  rintro e V4 ⟨sb, b, rfl, hsb, hbb, hset, hb⟩
  replace HC := Lib.hid (HC.out.bel hb)
  have HBB := Lib.hid (show w.heap.size ≤ b from Nat.le_trans HB.out.size hbb)
  replace HB := Lib.hid (HB.out.trans (hb.mono HB.out.size))
  have htz : (firstB [lkO l]).size = 16 := firstB_size _
  have hset : SetAt V4 sb b [⟨firstB [lkO l], 0, lkO l⟩] := hset
  have htok : TOk [⟨firstB [lkO l], 0, lkO l⟩] := tok_newS hnw (show 1 ≤ 8 by decide) (fun o ho => by rw [List.mem_singleton.1 ho]; exact ⟨HLO.out.am.2, HLO.out.unit⟩)
  generalize firstB [lkO l] = tx at hset htz htok
  have HTO := Lib.hid htok
  have HS := Lib.hid hset
  clear hset hb hsb hbb hnw htok
  go_wp2_with fail
  refine (all_n 1 sb b _ _ HS.out rfl (by decide) (by decide)).mono ?_
  rintro e V5 ⟨A5, c5, rfl, _, hb⟩
  replace HC := Lib.hid (HC.out.bel hb)
  replace HS := Lib.hid (HS.out.bel hb)
  replace HB := Lib.hid (HB.out.trans (hb.mono HB.out.size))
  clear hb
  go_wp2_with fail
  refine (all_n 1 sb b _ _ HS.out rfl (by decide) (by decide)).mono ?_
  rintro e V6 ⟨A6, c6, rfl, hsl, hb⟩
  replace HC := Lib.hid (HC.out.bel hb)
  replace HS := Lib.hid (HS.out.bel hb)
  replace HB := Lib.hid (HB.out.trans (hb.mono HB.out.size))
  obtain ⟨ab, off, rfl, hab, hce⟩ := hsl.at_ (show 0 < 1 by decide)
  have HCE := Lib.hid (show ∀ j v, (⟨tx, 0, lkO l⟩ : En).cl[j]? = some v → V6.cell? ⟨ab, off + j, none⟩ = some v from fun j v hv => by have := hce j v hv; simpa using this)
  clear hb hsl hce
  go_wp2_with (refine wpList_load_en rfl (.tmp 61) rfl ab off (by rfl) ⟨tx, 0, lkO l⟩ HCE.out ?_)
  rw [lkO_ent]
  refine (zattach_ok HC.out (by omega) tx 0 l HLO.out HKY.out HAN.out HTK.out).mono ?_
  rintro e V7 ⟨rfl, hk, hc⟩
  have HST : Hid (SbS w cb kb ctr pb mb sd tx l sb b 0 V7) := Lib.hid ⟨hk, HS.out.chS hc (by have := HS.out.hd.ne_ HC.out.1 (by decide); simpa using this) (by have := HS.out.ut.ne_blk HC.out.1; simpa using this), HB.out.trans (hc.below HB.out.size (by simpa using HSW.out.1))⟩
  clear hk hc HC HS HB HCE
  have HPY := fun W k (hk : k < 2) (h1 : SbS w cb kb ctr pb mb sd tx l sb b k W) => Lib.hid (spay_ok (w := W) 1 (k + 1) h1.cl HLO.out (by omega) (by decide) (by decide) (by decide) rfl (by omega) (room_0 (by have := HAM.out; omega) HLO.out.am.2) (by decide) (by show k < 2; exact hk) (by have := HSZ.out; omega) (by decide) (by omega))
  go_wp2_with fail
  go_loopw [13] (fun i wr => ∃ k : Nat, k ≤ u % 3 ∧ i = .int .i64 k ∧ Hid (SbS w cb kb ctr pb mb sd tx l sb b k wr)) (fun i _ => u % 3 - (intOf i).toNat)
  case atStart => exact ⟨0, by omega, rfl, HST⟩
  case round =>
    clear HST
    obtain ⟨k, hk, rfl, HST⟩ := hrel
    have hmod : Int.tmod (u : Int) 3 = ((u % 3 : Nat) : Int) := by rw [Int.tmod_eq_emod_of_nonneg (by omega)]; omega
    have hm3 : u % 3 < 3 := Nat.mod_lt _ (by decide)
    generalize u % 3 = m at hk hmod hm3 ⊢
    by_cases hlt : k < m
    · have d0 : decide ((k : Int) < (m : Int)) = true := decide_eq_true (by omega)
      go_wp2_with fail
      refine (HPY _ k (by omega) HST.out).out.mono ?_
      rintro e V8 ⟨rfl, hk8, hc8⟩
      replace HST := Lib.hid (HST.out.step hc8 HSW.out hk8)
      clear hk8 hc8
      go_wp2_with fail
      go_roundw
      case rel => exact ⟨k + 1, by omega, by go_num, HST⟩
      case measure => simp [intOf]; omega
    · have d0 : decide ((k : Int) < (m : Int)) = false := decide_eq_false (by omega)
      obtain rfl : k = m := by omega
      clear HPY hlt hk
      go_wp2_with fail
      refine (sleft_any HST.out.cl.at_ (by decide) (by omega)).mono ?_
      rintro e V9 ⟨rfl, nn, rfl⟩
      replace HST := Lib.hid (HST.out.go (bel_drewN _ nn))
      generalize wr.drewN nn = V9 at HST ⊢
      by_cases h2 : k = 2
      · subst h2
        go_wp2_with fail
        refine (sback_used HST.out.cl rfl (by decide) (by decide) (by decide) htz (by have := HAM.out; omega) HLO.out.am.2 (rootB_size _ _)).mono ?_
        rintro e Va ⟨rfl, hb⟩
        replace HST := Lib.hid (HST.out.go hb)
        clear hb
        go_wp2_with (first
          | (refine wpList_store_part rfl 70 (.tmp 15) (.tmp 78) rfl Va.heap.size 0 (cs := zTx) (Blk.new _ _ _) zTx zTx (by rfl) (by rfl) (Nat.le_refl 6) infoTx zTx_one zTx_over ?_; intro Vb hb1 hc1; replace HST := Lib.hid (HST.out.go (bel_st' hc1)); clear hb1 hc1))
        refine (fixed_any _).mono ?_
        rintro e Vc ⟨rfl, hb⟩
        go_wp2_with fail
        go_ret
        exact ⟨rfl, HST.out.bel.trans (hb.mono HST.out.bel.size)⟩
      · have hk2 : k < 2 := by omega
        have d2 : decide ((2 : Int) - (k : Int) > 0) = true := decide_eq_true (by omega)
        have d3 : decide ((0 : Int) < 2 - (k : Int)) = true := decide_eq_true (by omega)
        go_wp2_with fail
        refine (sback_ok HST.out.cl (by decide) (by show k < 2; exact hk2) (by have := HSZ.out; omega) htz (by decide) (by have := HAM.out; omega) HLO.out.am.2 (rootB_size _ _)).mono ?_
        rintro e Va ⟨gi, ci, go, co, rfl, hgi, hgo, hI, hO, hk, hc⟩
        obtain ⟨⟨a1, a2⟩, a3, a4⟩ := HST.out.sbne
        have HS := Lib.hid (HST.out.set.chS hc (by simp [a2]) (by simp [a4]))
        have HB := Lib.hid (HST.out.bel.trans (hc.below HST.out.bel.size (by simpa using HSW.out.2)))
        have HK := Lib.hid hk
        have hvs : verB (rootB sd 1) (coreB tx 0 3 (l.am - 10) (rootB sd 1)) (signB sd 1 k (coreB tx 0 3 (l.am - 10) (rootB sd 1))) = true := ver_sign sd (by decide) (by show k < 2; exact hk2) _
        have hsg : (signB sd 1 k (coreB tx 0 3 (l.am - 10) (rootB sd 1))).size ≤ 400 := by rw [signB_size sd (by show k < 2; exact hk2)]; omega
        generalize signB sd 1 k (coreB tx 0 3 (l.am - 10) (rootB sd 1)) = sig at hI hO hvs hsg
        obtain ⟨t, ht⟩ : ∃ t : Txn, t = backT gi ci go co tx (l.am - 10) (rootB sd 1) sig := ⟨_, rfl⟩
        have HM : Hid (t.mem Va) := Lib.hid (by rw [ht]; exact backt_mem hI hO)
        have HC8 : Hid (checkE [⟨tx, 0, lkO l⟩] t 8 = 12) := Lib.hid (by rw [ht, ← HKY.out]; exact sb_late htz (by have := HAM.out; omega) HLO.out.key hsg (by rw [HEX.out]; decide))
        have HC9 : Hid (checkE [⟨tx, 0, lkO l⟩] t 9 = 0) := Lib.hid (by rw [ht, ← HKY.out]; exact sb_ok htz (by have := HAM.out; omega) HLO.out.key hsg HLO.out.am.2 (by rw [HEX.out]; decide) (by rw [HKY.out]; exact hvs))
        have HAP : Hid (applyT [⟨tx, 0, lkO l⟩] t = [⟨idT t, 0, payO (l.am - 10) (rootB sd 1)⟩]) := Lib.hid (by rw [ht]; exact sb_apply hsg (lkO l))
        have HTX : Hid (TxOk t) := Lib.hid (by rw [ht]; exact sb_txok hsg (by have := HLO.out.am.2; omega))
        have hcs : txC gi ci go co = t.cs := by rw [ht]; rfl
        rw [hcs]
        clear hcs ht hvs hsg hI hO hk hc hgi hgo a1 a2 a3 a4 HST
        go_upto_region 20 with (first
          | (refine wpList_store_part rfl 70 (.tmp 15) (.tmp 78) rfl Va.heap.size 0 (cs := zTx) (Blk.new _ _ _) t.cs t.cs (by rfl) (by rfl) (Nat.le_refl 6) infoTx (txncs_one t) (txn_over t rfl) ?_; intro Vb hb1 hc1; have hb := bel_st' hc1; have HE : Hid (SbE w cb kb ctr pb mb sd tx l k (k + 1) sb b Va.heap.size t [⟨tx, 0, lkO l⟩] Vb) := Lib.hid ⟨(HK.out.bel hb).1, (HK.out.bel hb).2.1, HS.out.bel hb, hb1, HM.out.bel hb, HB.out.trans (hb.mono HB.out.size)⟩; clear hb1 hc1 hb))
        try go_frame
        clear HK HS HM HB
        generalize Va.heap.size = g15 at HE ⊢
        have KC8 := fun W (h1 : SbE w cb kb ctr pb mb sd tx l k (k + 1) sb b g15 t [⟨tx, 0, lkO l⟩] W) => Lib.hid (check_any sb b [⟨tx, 0, lkO l⟩] t 8 W h1.set h1.mem HTO.out HTX.out)
        have KA9 := fun W (h1 : SbE w cb kb ctr pb mb sd tx l k (k + 1) sb b g15 t [⟨tx, 0, lkO l⟩] W) => Lib.hid (apply_any sb b [⟨tx, 0, lkO l⟩] t 9 W h1.set h1.mem HTO.out HTX.out)
        rw [HC8.out] at KC8
        rw [HC9.out, HAP.out] at KA9
        have HAL := fun W (h1 : SbE w cb kb ctr pb mb sd tx l k (k + 1) sb b g15 t [⟨idT t, 0, payO (l.am - 10) (rootB sd 1)⟩] W) => Lib.hid (all_n 1 sb b [⟨idT t, 0, payO (l.am - 10) (rootB sd 1)⟩] W h1.set rfl (by decide) (by decide))
        have HRT := fun W (h1 : SbE w cb kb ctr pb mb sd tx l k (k + 1) sb b g15 t [⟨idT t, 0, payO (l.am - 10) (rootB sd 1)⟩] W) => Lib.hid (sroot_blk h1.cl h1.key)
        have HPO : Hid ((payO (l.am - 10) (rootB sd 1)).cl.toArray = #[.int .i64 1, .int .u64 (1 + (a : Int)), .string (rootB sd 1), .string ByteArray.empty, .int .i64 0, .string ByteArray.empty, .int .u64 0, .int .i64 0, .string ByteArray.empty]) := Lib.hid (by
          rw [show l.am - 10 = 1 + a from by have := HAM.out; omega]
          show (#[.int .i64 1, .int .u64 ((1 + a : Nat) : Int), .string (rootB sd 1), .string ByteArray.empty, .int .i64 0, .string ByteArray.empty, .int .u64 0, .int .i64 0, .string ByteArray.empty] : Array Value) = _
          rw [show ((1 + a : Nat) : Int) = 1 + (a : Int) from by omega])
        have kq : ∀ W, (binOp .eql 57 (.agg #[.int .i64 1, .int .u64 (1 + (a : Int)), .string (rootB sd 1), .string ByteArray.empty, .int .i64 0, .string ByteArray.empty, .int .u64 0, .int .i64 0, .string ByteArray.empty]) (.agg #[.int .i64 1, .int .u64 (1 + (a : Int)), .string (rootB sd 1), .string ByteArray.empty, .int .i64 0, .string ByteArray.empty, .int .u64 0, .int .i64 0, .string ByteArray.empty])).run Tryz.prog W = .ok (.bool true) W := fun W => by
          have h := ouEql_self W (payO (l.am - 10) (rootB sd 1))
          rw [show (payO (l.am - 10) (rootB sd 1)).cs = (payO (l.am - 10) (rootB sd 1)).cl.toArray from (Array.toArray_toList ..).symm, HPO.out] at h
          exact h
        have KQ := Lib.hid kq
        clear kq HC8 HC9 HAP HTO HTX
        refine wp_region_held_drew (S := fun W => Hid (Blk W g15 70 t.cs)) (by kernel_rfl) (Lib.hid (HE.out.blk.drewN 1)) (fun hS => ?_)
        replace HE := Lib.hid (HE.out.go (Below.refl _ _).drew)
        refine wpAnyH_genT fun X hX2 => ?_
        rw [← hX2] at HE hS
        clear hX2
        refine wpAnyH_take (i := 0) (v := ?_) rfl (by kernel_rfl) (by kernel_rfl) (by kernel_rfl) (fun _ _ _ h => h) (Or.inl ⟨by rfl, ?_⟩) hS ?_
        rotate_left
        · (intro w _; go_simp; try with_reducible rfl)
        refine wpAnyH_take (i := 1) (v := .agg t.cs) rfl (by kernel_rfl) (by kernel_rfl) (by kernel_rfl) (fun _ _ _ h => h) (yields_blk (by kernel_rfl) 70 (.tmp 15) (by rfl) g15 0 6 (t := 70) (cs := t.cs) (fun W h => h.out) t.cs (by rfl) (txn_ext t) Tryz.underlying70 infoTx (Nat.le_refl 6)) hS ?_
        refine wpAnyH_ready (rs := [2]) (by kernel_rfl) (by simp) (AllReadyH.cons rfl (fun K hK => ?_) AllReadyH.nil)
        go_simp
        refine (KC8 _ HE.out).out.mono ?_
        rintro e Y ⟨rfl, hb⟩
        replace HE := Lib.hid (HE.out.go hb)
        clear hb
        go_simp
        refine hK.out _ _ (Lib.hid HE.out.blk) (fun hS1 => ?_)
        clear hK K hS
        refine wpAnyH_take (i := 3) (v := ?_) rfl (by kernel_rfl) (by kernel_rfl) (by kernel_rfl) (fun _ _ _ h => h) (Or.inl ⟨by kernel_rfl, ?_⟩) hS1 ?_
        rotate_left
        · (intro w _; go_simp; try with_reducible rfl)
        refine wpAnyH_take (i := 4) (v := ?_) rfl (by kernel_rfl) (by kernel_rfl) (by kernel_rfl) (fun _ _ _ h => h) (Or.inl ⟨by kernel_rfl, ?_⟩) hS1 ?_
        rotate_left
        · (intro w _; go_simp; try with_reducible rfl)
        refine wpAnyH_take (i := 5) (v := ?_) rfl (by kernel_rfl) (by kernel_rfl) (by kernel_rfl) (fun _ _ _ h => h) (Or.inl ⟨by kernel_rfl, ?_⟩) hS1 ?_
        rotate_left
        · (intro w _; go_simp; try with_reducible rfl)
        refine wpAnyH_take (i := 6) (v := .agg t.cs) rfl (by kernel_rfl) (by kernel_rfl) (by kernel_rfl) (fun _ _ _ h => h) (yields_blk (by kernel_rfl) 70 (.tmp 15) (by rfl) g15 0 6 (t := 70) (cs := t.cs) (fun W h => h.out) t.cs (by rfl) (txn_ext t) Tryz.underlying70 infoTx (Nat.le_refl 6)) hS1 ?_
        refine wpAnyH_ready (rs := [7]) (by kernel_rfl) (by simp) (AllReadyH.cons rfl (fun K hK => ?_) AllReadyH.nil)
        go_simp
        refine (KA9 _ HE.out).out.mono ?_
        rintro e Z ⟨rfl, hc, hset⟩
        rw [if_pos rfl] at hset
        replace HE := Lib.hid (HE.out.put hc hset HBB.out)
        clear hc hset
        go_simp
        refine hK.out _ _ (Lib.hid HE.out.blk) (fun hS2 => ?_)
        clear hK K hS1
        refine wpAnyH_take (i := 8) (v := ?_) rfl (by kernel_rfl) (by kernel_rfl) (by kernel_rfl) (fun _ _ _ h => h) (Or.inl ⟨by kernel_rfl, ?_⟩) hS2 ?_
        rotate_left
        · (intro w _; go_simp; try with_reducible rfl)
        refine wpAnyH_take (i := 9) (v := ?_) rfl (by kernel_rfl) (by kernel_rfl) (by kernel_rfl) (fun _ _ _ h => h) (Or.inl ⟨by kernel_rfl, ?_⟩) hS2 ?_
        rotate_left
        · (intro w _; go_simp; try with_reducible rfl)
        refine wpAnyH_take (i := 10) (v := ?_) rfl (by kernel_rfl) (by kernel_rfl) (by kernel_rfl) (fun _ _ _ h => h) (Or.inl ⟨by kernel_rfl, ?_⟩) hS2 ?_
        rotate_left
        · (intro w _; go_simp; try with_reducible rfl)
        refine wpAnyH_take (i := 11) (v := ?_) rfl (by kernel_rfl) (by kernel_rfl) (by kernel_rfl) (fun _ _ _ h => h) (Or.inl ⟨by kernel_rfl, ?_⟩) hS2 ?_
        rotate_left
        · (intro w _; go_simp; try with_reducible rfl)
        refine wpAnyH_ready (rs := [12]) (by kernel_rfl) (by simp) (AllReadyH.cons rfl (fun K hK => ?_) AllReadyH.nil)
        go_simp
        refine (HAL _ HE.out).out.mono ?_
        rintro e Z1 ⟨A1, c1, rfl, _, hb⟩
        replace HE := Lib.hid (HE.out.go hb)
        clear hb
        go_simp
        refine hK.out _ _ (Lib.hid HE.out.blk) (fun hS3 => ?_)
        clear hK K hS2
        refine wpAnyH_take (i := 13) (v := ?_) rfl (by kernel_rfl) (by kernel_rfl) (by kernel_rfl) (fun _ _ _ h => h) (Or.inl ⟨by kernel_rfl, ?_⟩) hS3 ?_
        rotate_left
        · (intro w _; go_simp; try with_reducible rfl)
        refine wpAnyH_take (i := 14) (v := ?_) rfl (by kernel_rfl) (by kernel_rfl) (by kernel_rfl) (fun _ _ _ h => h) (Or.inl ⟨by kernel_rfl, ?_⟩) hS3 ?_
        rotate_left
        · (intro w _; go_simp; try with_reducible rfl)
        refine wpAnyH_take (i := 15) (v := ?_) rfl (by kernel_rfl) (by kernel_rfl) (by kernel_rfl) (fun _ _ _ h => h) (Or.inl ⟨by kernel_rfl, ?_⟩) hS3 ?_
        rotate_left
        · (intro w _; go_simp; try with_reducible rfl)
        refine wpAnyH_take (i := 16) (v := ?_) rfl (by kernel_rfl) (by kernel_rfl) (by kernel_rfl) (fun _ _ _ h => h) (Or.inl ⟨by kernel_rfl, ?_⟩) hS3 ?_
        rotate_left
        · (intro w _; go_simp; try with_reducible rfl)
        refine wpAnyH_take (i := 17) (v := ?_) rfl (by kernel_rfl) (by kernel_rfl) (by kernel_rfl) (fun _ _ _ h => h) (Or.inl ⟨by kernel_rfl, ?_⟩) hS3 ?_
        rotate_left
        · (intro w _; go_simp; try with_reducible rfl)
        refine wpAnyH_take (i := 22) (v := ?_) rfl (by kernel_rfl) (by kernel_rfl) (by kernel_rfl) (fun _ _ _ h => h) (Or.inl ⟨by kernel_rfl, ?_⟩) hS3 ?_
        rotate_left
        · (intro w _; go_simp; try with_reducible rfl)
        refine wpAnyH_take (i := 23) (v := ?_) rfl (by kernel_rfl) (by kernel_rfl) (by kernel_rfl) (fun _ _ _ h => h) (Or.inl ⟨by kernel_rfl, ?_⟩) hS3 ?_
        rotate_left
        · (intro w _; go_simp; try with_reducible rfl)
        refine wpAnyH_take (i := 24) (v := ?_) rfl (by kernel_rfl) (by kernel_rfl) (by kernel_rfl) (fun _ _ _ h => h) (Or.inl ⟨by kernel_rfl, ?_⟩) hS3 ?_
        rotate_left
        · (intro w _; go_simp; try with_reducible rfl)
        refine wpAnyH_take (i := 25) (v := ?_) rfl (by kernel_rfl) (by kernel_rfl) (by kernel_rfl) (fun _ _ _ h => h) (Or.inl ⟨by kernel_rfl, ?_⟩) hS3 ?_
        rotate_left
        · (intro w _; go_simp; try with_reducible rfl)
        have KW : Hid (IntKind.u64.wrap (a : Int) = (a : Int) ∧ IntKind.u64.wrap (1 + (a : Int)) = 1 + (a : Int)) := Lib.hid ⟨by rw [IntKind.wrap_u64]; omega, by rw [IntKind.wrap_u64]; omega⟩
        refine wpAnyH_ready (rs := [18]) (by kernel_rfl) (by simp) (AllReadyH.cons rfl (fun K hK => ?_) AllReadyH.nil)
        go_simp
        refine (HAL _ HE.out).out.mono ?_
        rintro e Z2 ⟨A2, c2, rfl, hsl, hb⟩
        obtain ⟨ab, off, rfl, hab, hce⟩ := hsl.at_ (show 0 < 1 by decide)
        have HCE := Lib.hid (show ∀ j v, (payO (l.am - 10) (rootB sd 1)).cl[j]? = some v → Z2.cell? ⟨ab, off + 2 + j, none⟩ = some v from fun j v hv => by have := hce (2 + j) v (by rw [Nat.add_comm 2 j]; exact hv); simpa [Nat.add_assoc] using this)
        replace HE := Lib.hid (HE.out.go hb)
        clear hb hsl hce
        go_simp
        refine hK.out _ _ (Lib.hid HE.out.blk) (fun hS4 => ?_)
        clear hK K
        refine wpAnyH_take (i := 19) (v := ?_) rfl (by kernel_rfl) (by kernel_rfl) (by kernel_rfl) (fun _ _ _ h => h) (Or.inl ⟨by kernel_rfl, ?_⟩) hS4 ?_
        rotate_left
        · (intro w _; go_simp; try with_reducible rfl)
        refine wpAnyH_take (i := 20) (v := ?_) rfl (by kernel_rfl) (by kernel_rfl) (by kernel_rfl) (fun _ _ _ h => h) (Or.inl ⟨by kernel_rfl, ?_⟩) hS4 ?_
        rotate_left
        · (intro w _; go_simp; try with_reducible rfl)
        refine wpAnyH_ready (rs := [21, 26]) (by kernel_rfl) (by simp) (AllReadyH.cons rfl (fun K hK => ?_) (AllReadyH.cons rfl (fun K hK => ?_) AllReadyH.nil))
        · refine step_load_row (by kernel_rfl) 57 (.tmp 120) (by rfl) ab (off + 2) (payO (l.am - 10) (rootB sd 1)).cl HCE.out #[.int .i64 1, .int .u64 (1 + (a : Int)), .string (rootB sd 1), .string ByteArray.empty, .int .i64 0, .string ByteArray.empty, .int .u64 0, .int .i64 0, .string ByteArray.empty] (by rfl) HPO.out Tryz.underlying57 infoOu9 ?_
          refine hK.out _ _ (Lib.hid HE.out.blk) (fun hS6 => ?_)
          clear hK K
          refine wpAnyH_ready (rs := [26]) (by kernel_rfl) (by simp) (AllReadyH.cons rfl (fun K hK => ?_) AllReadyH.nil)
          go_simp
          refine (HRT _ HE.out).out.mono ?_
          rintro e Z3 ⟨rfl, hq⟩
          rw [hq]
          clear hq Z3
          go_simp
          refine hK.out _ _ (Lib.hid HE.out.blk) (fun hS5 => ?_)
          clear hK K
          have hS7 := Lib.hid HE.out.blk
          refine wpAnyH_take (i := 27) (v := .agg #[.int .i64 1, .int .u64 (1 + (a : Int)), .string (rootB sd 1), .string ByteArray.empty, .int .i64 0, .string ByteArray.empty, .int .u64 0, .int .i64 0, .string ByteArray.empty]) rfl (by kernel_rfl) (by kernel_rfl) (by kernel_rfl) (fun _ _ _ h => h) (Or.inl ⟨by kernel_rfl, ?_⟩) hS7 ?_
          · intro wv _
            go_simp
            simp only [KW.out.1, KW.out.2]
            exact ⟨trivial, rfl⟩
          refine wpAnyH_take (i := 28) (v := .bool true) rfl (by kernel_rfl) (by kernel_rfl) (by kernel_rfl) (fun _ _ _ h => h) (yields_eql (by kernel_rfl) 57 (.tmp 121) (.tmp 127) (by rfl) #[.int .i64 1, .int .u64 (1 + (a : Int)), .string (rootB sd 1), .string ByteArray.empty, .int .i64 0, .string ByteArray.empty, .int .u64 0, .int .i64 0, .string ByteArray.empty] #[.int .i64 1, .int .u64 (1 + (a : Int)), .string (rootB sd 1), .string ByteArray.empty, .int .i64 0, .string ByteArray.empty, .int .u64 0, .int .i64 0, .string ByteArray.empty] (by rfl) (by rfl) true (fun W => ouGuardE W _ _ _ _) KQ.out) hS7 ?_
          refine wpAnyH_take (i := 29) (v := ?_) rfl (by kernel_rfl) (by kernel_rfl) (by kernel_rfl) (fun _ _ _ h => h) (Or.inl ⟨by kernel_rfl, ?_⟩) hS7 ?_
          rotate_left
          · (intro w _; go_simp; try with_reducible rfl)
          refine wpAnyH_take (i := 30) (v := ?_) rfl (by kernel_rfl) (by kernel_rfl) (by kernel_rfl) (fun _ _ _ h => h) (Or.inl ⟨by kernel_rfl, ?_⟩) hS7 ?_
          rotate_left
          · (intro w _; go_simp; try with_reducible rfl)
          refine wpAnyH_ready (rs := [31]) (by kernel_rfl) (by simp) (AllReadyH.cons rfl (fun K hK => ?_) AllReadyH.nil)
          go_simp
          refine (fixed_any _).mono ?_
          rintro e Z4 ⟨rfl, hb⟩
          replace HE := Lib.hid (HE.out.go hb)
          clear hb
          go_simp
          refine hK.out _ _ (Lib.hid HE.out.blk) (fun hS8 => ?_)
          clear hK K
          refine wpAnyH_take (i := 32) (v := ?_) rfl (by kernel_rfl) (by kernel_rfl) (by kernel_rfl) (fun _ _ _ h => h) (Or.inl ⟨by kernel_rfl, ?_⟩) hS8 ?_
          rotate_left
          · (intro w _; go_simp; try with_reducible rfl)
          refine wpAnyH_take (i := 33) (v := ?_) rfl (by kernel_rfl) (by kernel_rfl) (by kernel_rfl) (fun _ _ _ h => h) (Or.inl ⟨by kernel_rfl, ?_⟩) hS8 ?_
          rotate_left
          · (intro w _; go_simp; try with_reducible rfl)
          refine wpAnyH_done (by kernel_rfl) ?_ _
          go_wp2_with fail
          go_ret
          exact ⟨rfl, HE.out.bel⟩
        · go_simp
          refine (HRT _ HE.out).out.mono ?_
          rintro e Z3 ⟨rfl, hq⟩
          rw [hq]
          clear hq Z3
          go_simp
          refine hK.out _ _ (Lib.hid HE.out.blk) (fun hS5 => ?_)
          clear hK K
          have hS7 := Lib.hid HE.out.blk
          refine wpAnyH_take (i := 27) (v := .agg #[.int .i64 1, .int .u64 (1 + (a : Int)), .string (rootB sd 1), .string ByteArray.empty, .int .i64 0, .string ByteArray.empty, .int .u64 0, .int .i64 0, .string ByteArray.empty]) rfl (by kernel_rfl) (by kernel_rfl) (by kernel_rfl) (fun _ _ _ h => h) (Or.inl ⟨by kernel_rfl, ?_⟩) hS7 ?_
          · intro wv _
            go_simp
            simp only [KW.out.1, KW.out.2]
            exact ⟨trivial, rfl⟩
          refine wpAnyH_ready (rs := [21]) (by kernel_rfl) (by simp) (AllReadyH.cons rfl (fun K hK => ?_) AllReadyH.nil)
          refine step_load_row (by kernel_rfl) 57 (.tmp 120) (by rfl) ab (off + 2) (payO (l.am - 10) (rootB sd 1)).cl HCE.out #[.int .i64 1, .int .u64 (1 + (a : Int)), .string (rootB sd 1), .string ByteArray.empty, .int .i64 0, .string ByteArray.empty, .int .u64 0, .int .i64 0, .string ByteArray.empty] (by rfl) HPO.out Tryz.underlying57 infoOu9 ?_
          refine hK.out _ _ (Lib.hid HE.out.blk) (fun hS6 => ?_)
          clear hK K
          refine wpAnyH_take (i := 28) (v := .bool true) rfl (by kernel_rfl) (by kernel_rfl) (by kernel_rfl) (fun _ _ _ h => h) (yields_eql (by kernel_rfl) 57 (.tmp 121) (.tmp 127) (by rfl) #[.int .i64 1, .int .u64 (1 + (a : Int)), .string (rootB sd 1), .string ByteArray.empty, .int .i64 0, .string ByteArray.empty, .int .u64 0, .int .i64 0, .string ByteArray.empty] #[.int .i64 1, .int .u64 (1 + (a : Int)), .string (rootB sd 1), .string ByteArray.empty, .int .i64 0, .string ByteArray.empty, .int .u64 0, .int .i64 0, .string ByteArray.empty] (by rfl) (by rfl) true (fun W => ouGuardE W _ _ _ _) KQ.out) hS7 ?_
          refine wpAnyH_take (i := 29) (v := ?_) rfl (by kernel_rfl) (by kernel_rfl) (by kernel_rfl) (fun _ _ _ h => h) (Or.inl ⟨by kernel_rfl, ?_⟩) hS7 ?_
          rotate_left
          · (intro w _; go_simp; try with_reducible rfl)
          refine wpAnyH_take (i := 30) (v := ?_) rfl (by kernel_rfl) (by kernel_rfl) (by kernel_rfl) (fun _ _ _ h => h) (Or.inl ⟨by kernel_rfl, ?_⟩) hS7 ?_
          rotate_left
          · (intro w _; go_simp; try with_reducible rfl)
          refine wpAnyH_ready (rs := [31]) (by kernel_rfl) (by simp) (AllReadyH.cons rfl (fun K hK => ?_) AllReadyH.nil)
          go_simp
          refine (fixed_any _).mono ?_
          rintro e Z4 ⟨rfl, hb⟩
          replace HE := Lib.hid (HE.out.go hb)
          clear hb
          go_simp
          refine hK.out _ _ (Lib.hid HE.out.blk) (fun hS8 => ?_)
          clear hK K
          refine wpAnyH_take (i := 32) (v := ?_) rfl (by kernel_rfl) (by kernel_rfl) (by kernel_rfl) (fun _ _ _ h => h) (Or.inl ⟨by kernel_rfl, ?_⟩) hS8 ?_
          rotate_left
          · (intro w _; go_simp; try with_reducible rfl)
          refine wpAnyH_take (i := 33) (v := ?_) rfl (by kernel_rfl) (by kernel_rfl) (by kernel_rfl) (fun _ _ _ h => h) (Or.inl ⟨by kernel_rfl, ?_⟩) hS8 ?_
          rotate_left
          · (intro w _; go_simp; try with_reducible rfl)
          refine wpAnyH_done (by kernel_rfl) ?_ _
          go_wp2_with fail
          go_ret
          exact ⟨rfl, HE.out.bel⟩
end Go.Proofs.YtmbceheafjadhaaGreat
