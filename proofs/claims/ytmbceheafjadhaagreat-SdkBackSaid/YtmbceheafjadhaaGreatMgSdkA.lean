/- sdk: the client in memory; New, Root, Left, Name, Whole. sdk: Root, Left, Name, Whole of a client on a channel. sdk.bound. sdk: Bound, room. sdk: paid.lay. sdk.signed, of a voucher. sdk.Pay where it is refused. sdk.Pay where there is no room. -/
import Derived.Outline
import Derived.OwnWalk
import Derived.Deep.RegionLaw
import Derived.Test.YtmbceheafjadhaaGreatMgMerk
import Derived.Test.YtmbceheafjadhaaGreatMgNote
set_option linter.unusedVariables false
set_option linter.unusedSimpArgs false
namespace Go.Proofs.YtmbceheafjadhaaGreat
open Go.RowKit Go.Maps
/-- a client without a channel -/
def clZ (kb pb mb : Nat) : Array Value := #[.pointer (some ⟨kb, 0, none⟩), .pointer (some ⟨pb, 0, none⟩), .string ByteArray.empty, .int .i64 0, .int .i64 0, .int .u64 0, .string ByteArray.empty, .string ByteArray.empty, .int .i64 0, .string ByteArray.empty, .int .u64 0, .int .i64 0, .string ByteArray.empty, .slice none 0 0, .int .u64 0, .string ByteArray.empty, .string ByteArray.empty, .slice none 0 0, .int .i64 0, .int .u64 0, .int .u64 0, .bool false, .bool false, .int .u64 0, .int .i64 0, .map (some mb)]
/-- a client on a channel -/
def clC (kb pb mb : Nat) (tx : ByteArray) (out : Nat) (l : Lk) (am tk : Nat) : Array Value := #[.pointer (some ⟨kb, 0, none⟩), .pointer (some ⟨pb, 0, none⟩), .string tx, .int .i64 (out : Nat), .int .i64 2, .int .u64 (l.am : Nat), .string l.key, .string l.gate, .int .i64 (l.ex : Nat), .string l.anchor, .int .u64 (l.unit : Nat), .int .i64 (l.tok : Nat), .string ByteArray.empty, .slice none 0 0, .int .u64 0, .string ByteArray.empty, .string ByteArray.empty, .slice none 0 0, .int .i64 0, .int .u64 0, .int .u64 0, .bool false, .bool true, .int .u64 (am : Nat), .int .i64 (tk : Nat), .map (some mb)]
def ClZ (w : World) (cb : Nat) (seed : ByteArray) (h n i : Nat) : Prop :=
  ∃ kb ctr pb mb, Blk w cb 252 (clZ kb pb mb) ∧ KeyAt w kb ctr seed h i ∧ ChainAt w pb seed n ∧ MpU w mb (.map [])
def ClAt (w : World) (cb : Nat) (seed : ByteArray) (h n i : Nat) (tx : ByteArray) (out : Nat) (l : Lk) (am tk : Nat) (D : DU) : Prop :=
  ∃ kb ctr pb mb, Blk w cb 252 (clC kb pb mb tx out l am tk) ∧ KeyAt w kb ctr seed h i ∧ ChainAt w pb seed n ∧ MpU w mb D
/-- .. with its blocks named -/
def ZIn (w : World) (cb kb ctr pb mb : Nat) (seed : ByteArray) (h n i : Nat) : Prop :=
  Blk w cb 252 (clZ kb pb mb) ∧ KeyAt w kb ctr seed h i ∧ ChainAt w pb seed n ∧ MpU w mb (.map [])
def CIn (w : World) (cb kb ctr pb mb : Nat) (seed : ByteArray) (h n i : Nat) (tx : ByteArray) (out : Nat) (l : Lk) (am tk : Nat) (D : DU) : Prop :=
  Blk w cb 252 (clC kb pb mb tx out l am tk) ∧ KeyAt w kb ctr seed h i ∧ ChainAt w pb seed n ∧ MpU w mb D
theorem ZIn.at_ {w : World} {cb kb ctr pb mb h n i : Nat} {seed : ByteArray} (k : ZIn w cb kb ctr pb mb seed h n i) : ClZ w cb seed h n i := ⟨kb, ctr, pb, mb, k⟩
theorem CIn.at_ {w : World} {cb kb ctr pb mb h n i out am tk : Nat} {seed tx : ByteArray} {l : Lk} {D : DU} (k : CIn w cb kb ctr pb mb seed h n i tx out l am tk D) : ClAt w cb seed h n i tx out l am tk D := ⟨kb, ctr, pb, mb, k⟩
theorem ZIn.bel {w w' : World} {cb kb ctr pb mb h n i : Nat} {seed : ByteArray} (k : ZIn w cb kb ctr pb mb seed h n i) (hb : Below w.heap.size w w') : ZIn w' cb kb ctr pb mb seed h n i := by
  obtain ⟨h1, h2, h3, h4⟩ := k
  exact ⟨h1.bel hb, h2.bel hb, h3.bel hb, h4.ch (Ch.of_below hb []) (by simp)⟩
theorem CIn.bel {w w' : World} {cb kb ctr pb mb h n i out am tk : Nat} {seed tx : ByteArray} {l : Lk} {D : DU} (k : CIn w cb kb ctr pb mb seed h n i tx out l am tk D) (hb : Below w.heap.size w w') : CIn w' cb kb ctr pb mb seed h n i tx out l am tk D := by
  obtain ⟨h1, h2, h3, h4⟩ := k
  exact ⟨h1.bel hb, h2.bel hb, h3.bel hb, h4.ch (Ch.of_below hb []) (by simp)⟩
theorem ClZ.bel {w w' : World} {cb h n i : Nat} {seed : ByteArray} (k : ClZ w cb seed h n i) (hb : Below w.heap.size w w') : ClZ w' cb seed h n i := by
  obtain ⟨kb, ctr, pb, mb, h1, h2, h3, h4⟩ := k
  exact ⟨kb, ctr, pb, mb, h1.bel hb, h2.bel hb, h3.bel hb, h4.ch (Ch.of_below hb []) (by simp)⟩
theorem ClAt.bel {w w' : World} {cb h n i out am tk : Nat} {seed tx : ByteArray} {l : Lk} {D : DU} (k : ClAt w cb seed h n i tx out l am tk D) (hb : Below w.heap.size w w') : ClAt w' cb seed h n i tx out l am tk D := by
  obtain ⟨kb, ctr, pb, mb, h1, h2, h3, h4⟩ := k
  exact ⟨kb, ctr, pb, mb, h1.bel hb, h2.bel hb, h3.bel hb, h4.ch (Ch.of_below hb []) (by simp)⟩
set_option maxRecDepth 100000 in
set_option maxHeartbeats 2000000 in
theorem snew_any (seed : ByteArray) (h n : Nat) (w : World) (hh : h ≤ 4) (h1 : 1 ≤ n) (hn : n ≤ 4096) (hs : seed.size ≤ 1000000) :
    Calls Tryz.prog 66 #[.string seed, .int .i64 h, .int .i64 n] w fun e w' => ∃ cb kb ctr pb mb, e = .returned (.tuple #[.pointer (some ⟨cb, 0, none⟩), .int .i64 0]) ∧ (w.heap.size ≤ cb ∧ w.heap.size ≤ ctr ∧ w.heap.size ≤ mb) ∧ ZIn w' cb kb ctr pb mb seed h n 0 ∧ Below w.heap.size w w' := by
  have hmm := @run_makeMap Tryz.prog
  go_enter Tryz.func66, Tryz.ntmps66
  go_wp2_with fail
  refine (mnew_any seed h w hh hs).mono ?_
  rintro e w1 ⟨kb, ctr, rfl, hk1, hk2, hk, hb1⟩
  have HK := Lib.hid hk
  have HB1 := Lib.hid hb1
  clear hk hb1
  go_wp2_with fail
  refine (pnew_any seed n w1 h1 hn hs).mono ?_
  rintro e w2 ⟨pb, rfl, hp1, hp, hb2⟩
  have HK2 := Lib.hid (HK.out.bel hb2)
  have HP := Lib.hid hp
  have HB2 := Lib.hid (HB1.out.trans (hb2.mono HB1.out.size))
  clear hp hb2
  go_wp2_with fail
  go_ret2
  have hz := HB2.out.size
  have hbw : Below w2.heap.size w2 ((w2.alloc (.map #[] 0)).alloc (.cells (clZ kb pb w2.heap.size) 252)) := ((Below.refl _ _).alloc (Nat.le_refl _) _).alloc (by simp) _
  refine ⟨w2.heap.size + 1, kb, ctr, pb, w2.heap.size, rfl, ⟨by omega, by omega, by omega⟩, ⟨Blk.newAt (by simp), HK2.out.bel hbw, HP.out.bel hbw, MpU.ch (MpU.new _) (Ch.alloc [] _ _) (by simp)⟩, HB2.out.trans (hbw.mono hz)⟩
end Go.Proofs.YtmbceheafjadhaaGreat
namespace Go.Proofs.YtmbceheafjadhaaGreat
open Go.RowKit Go.Maps
/-- a struct in the midst of a block that is known whole is read -/
theorem wpList_load_blk {ops : Array Oper} {rest : List Oper} {o : Oper} {a : Act} {w : World} {Q : Exit → Act → World → Prop} (hgd : o.guard = none) (ty : TypeId) (x : Operand) (ho : o.op = .load ty x)
    (g off n : Nat) {t : TypeId} {cs : Array Value} {fs : Array Field} (hb : Blk w g t cs) (part : Array Value) (hx : a.eval x = .pointer (some ⟨g, off, none⟩)) (hp : cs.extract off (off + n) = part)
    (hu : Tryz.prog.underlying ty = some (.struct fs)) (hi : (Tryz.prog.info? ty).map (·.size) = some n) (hn : off + n ≤ cs.size)
    (h : wpList Tryz.prog ops Q rest (a.put o.dst (.agg part)) w) : wpList Tryz.prog ops Q (o :: rest) a w := by
  subst hp
  refine wpList_load_mid hgd ty x ho g off hx (cs.extract off (off + n)).toList _ (World.rangeAt_of_block (w := w) (b := g) (C := cs) (t := t) (fr := (0, 0)) hb off n) hu rfl (by rw [hi]; simp; omega) ?_
  rw [Array.toArray_toList]
  exact h
theorem infoPnt : (Tryz.prog.info? 54).map (·.size) = some 2 := by kernel_rfl
variable {w : World} {cb h n i out am tk : Nat} {seed tx : ByteArray} {l : Lk} {D : DU}
set_option maxRecDepth 100000 in
theorem sroot_any (k : ClAt w cb seed h n i tx out l am tk D) :
    Calls Tryz.prog 68 #[.pointer (some ⟨cb, 0, none⟩)] w fun e w' => e = .returned (.string (rootB seed h)) ∧ w' = w := by
  obtain ⟨kb, ctr, pb, mb, h1, h2, _, _⟩ := k
  have c0 := h1.cell 0
  simp [clC] at c0
  clear h1
  go_enter Tryz.func68, Tryz.ntmps68
  go_wp2_with fail
  refine (kroot_any kb ctr seed h i w h2).mono ?_
  rintro e w1 ⟨rfl, rfl⟩
  go_wp2
  go_ret
  exact ⟨rfl, rfl⟩
set_option maxRecDepth 100000 in
theorem sleft_any (k : ClAt w cb seed h n i tx out l am tk D) (hh : h ≤ 4) (hi : i ≤ 1000) :
    Calls Tryz.prog 71 #[.pointer (some ⟨cb, 0, none⟩)] w fun e w' => e = .returned (.int .i64 ((2 ^ h : Nat) - (i : Int))) ∧ ∃ n, w' = w.drewN n := by
  obtain ⟨kb, ctr, pb, mb, h1, h2, _, _⟩ := k
  have c0 := h1.cell 0
  simp [clC] at c0
  obtain ⟨vl, k1, _, _⟩ := id h2
  have d0 := k1.cell 0
  simp [keyC] at d0
  have HL := Lib.hid (kleft_any kb ctr seed h i w h2 hh hi)
  clear h1 k1 h2
  generalize ((2 ^ h : Nat) - (i : Int)) = r at *
  go_enter Tryz.func71, Tryz.ntmps71
  go_wp2_with fail
  refine HL.out.mono ?_
  rintro e w1 ⟨rfl, m, rfl⟩
  go_wp2
  go_ret
  exact ⟨rfl, m, rfl⟩
set_option maxRecDepth 100000 in
theorem sname_any (k : ClAt w cb seed h n i tx out l am tk D) (ho : out < 256) (hz : tx.size ≤ 1000000) :
    Calls Tryz.prog 154 #[.pointer (some ⟨cb, 0, none⟩)] w fun e w' => e = .returned (.string (nameB tx out)) ∧ Below w.heap.size w w' := by
  obtain ⟨kb, ctr, pb, mb, h1, _, _, _⟩ := k
  have c22 := h1.cell 22
  simp [clC] at c22
  have H1 := Lib.hid h1
  clear h1
  go_enter Tryz.func154, Tryz.ntmps154
  go_wp2_with (first | (refine wpList_load_blk rfl 54 (.tmp 12) rfl cb 2 2 H1.out #[.string tx, .int .i64 out] (by rfl) (by simp [clC]) Tryz.underlying54 infoPnt (by simp [clC]) ?_))
  refine (cname_any tx out w ho hz).mono ?_
  rintro e w1 ⟨rfl, hb⟩
  have HB := Lib.hid hb
  clear hb
  go_wp2
  go_ret
  exact ⟨rfl, HB.out⟩
set_option maxRecDepth 100000 in
theorem swhole_any (k : ClAt w cb seed h n i tx out l am tk D) (hl : l.ok) :
    Calls Tryz.prog 162 #[.pointer (some ⟨cb, 0, none⟩)] w fun e w' => e = .returned (.int .u64 (l.am : Nat)) ∧ Below w.heap.size w w' := by
  obtain ⟨kb, ctr, pb, mb, h1, _, _, _⟩ := k
  have c22 := h1.cell 22
  simp [clC] at c22
  have H1 := Lib.hid h1
  clear h1
  go_enter Tryz.func162, Tryz.ntmps162
  go_wp2_with (first | (refine wpList_load_blk rfl 114 (.tmp 10) rfl cb 2 20 H1.out (stC tx out l) (by rfl) (by simp [clC, stC]) Tryz.underlying114 infoSta (by simp [clC]) ?_))
  refine (chwhole_any tx out l w hl).mono ?_
  rintro e w1 ⟨rfl, hb⟩
  have HB := Lib.hid hb
  clear hb
  go_wp2
  go_ret
  exact ⟨rfl, HB.out⟩
end Go.Proofs.YtmbceheafjadhaaGreat
namespace Go.Proofs.YtmbceheafjadhaaGreat
open Go.RowKit Go.Maps
theorem Tryz.infoU64 : (Tryz.prog.info? 55).map (fun i => (i.zero, i.size, i.bytes)) = some (some (.int .u64 0), 1, 8) := by kernel_rfl
def relC (am tk mb : Nat) : Array Value := #[.int .u64 (am : Nat), .int .i64 (tk : Nat), .map (some mb)]
def bdT (am tk u : Nat) (D : DU) : Int := am + tk * u + allD D
def bdV (am tk u : Nat) (D : DU) : Int := if tk * u < 18446744073709551616 ∧ bdT am tk u D < 18446744073709551616 then bdT am tk u D else 0
def bdE (am tk u : Nat) (D : DU) : Int := if tk * u < 18446744073709551616 ∧ bdT am tk u D < 18446744073709551616 then 0 else 2
theorem own_ne_iter {w : World} {base k n r : Nat} {e : TypeId} {A : Option Addr} {c m : Nat} {xs : List Value} {o : Obj} (h : w.ownsRow base e k (.slice A m c) n xs) (hr : w.heap[r]? = some o) (ho : ∀ cs t fr, o ≠ .cells cs t fr) : ∀ b, (Value.slice A m c).ownBlock = some b → b ∉ [r] := by
  intro b hb hm
  simp at hm; subst hm
  obtain ⟨_, h | ⟨g, cap, cur, hv, _, hg, _⟩⟩ := h
  · obtain ⟨hv, _⟩ := h
    rw [hv] at hb; simp [Value.ownBlock] at hb
  · rw [hv] at hb
    simp [Value.ownBlock] at hb
    subst hb
    rw [hg] at hr
    injection hr with hr
    exact ho _ _ _ hr.symm
theorem ch_none {w w' : World} (hg : w.grownBy w' none) : Ch [] w w' := ⟨hg.os, hg.tape, hg.output, hg.size, fun k hk _ => hg.block k hk (by simp)⟩
theorem wf64 {x : Int} (h : (Lit.int .u64 x).wf = true) : 0 ≤ x ∧ x < 18446744073709551616 := by
  have : 0 ≤ x ∧ x ≤ 18446744073709551615 := by simpa [Lit.wf, IntKind.min, IntKind.max, IntKind.signed, IntKind.bits] using h
  omega
theorem ranges_iter {w : World} {b r n : Nat} {D : DU} {left : Lit → Bool} {cnt : Nat} (h : w.ranges Tryz.prog 55 elU b r n D left cnt) : ∃ o, w.heap[r]? = some o ∧ ∀ cs t fr, o ≠ .cells cs t fr := by
  obtain ⟨_, _, _, _, _, _, _, _, _, hr, _⟩ := h
  exact ⟨_, hr, fun _ _ _ e => by cases e⟩
theorem ranges_map {w : World} {b r n : Nat} {D : DU} {left : Lit → Bool} {cnt : Nat} (h : w.ranges Tryz.prog 55 elU b r n D left cnt) : ∃ o, w.heap[b]? = some o ∧ ∀ cs t fr, o ≠ .cells cs t fr := by
  obtain ⟨_, _, _, _, _, hb, _⟩ := h
  exact ⟨_, hb, fun _ _ _ e => by cases e⟩
theorem mulV_bd (a b : Nat) : 0 ≤ mulV a b ∧ mulV a b < 18446744073709551616 := by
  have h : (0 : Int) ≤ (a : Int) * b := Int.mul_nonneg (by omega) (by omega)
  unfold mulV
  generalize (a : Int) * b = p at *
  by_cases hp : p < 18446744073709551616
  · rw [if_pos hp]; omega
  · rw [if_neg hp]; omega
theorem u64_flat (l : List Int) : l.flatMap u64c = l.map (Value.int .u64) := by
  induction l with
  | nil => rfl
  | cons a r ih => rw [List.flatMap_cons, ih]; rfl
theorem bd_no {am tk u : Nat} {D : DU} (h : ¬ (tk : Int) * u < 18446744073709551616) : bdV am tk u D = 0 ∧ bdE am tk u D = 2 := by
  have h' : ¬ (tk * u < 18446744073709551616 ∧ bdT am tk u D < 18446744073709551616) := fun k => h (by have := k.1; rw [← Int.natCast_mul]; omega)
  exact ⟨if_neg h', if_neg h'⟩
theorem bd_yes {am tk u : Nat} {D : DU} {ns : List Int} (h : (tk : Int) * u < 18446744073709551616) (hs : totI ns = allD D) : totV ((am : Int) :: mulV tk u :: ns) = bdV am tk u D ∧ totE ((am : Int) :: mulV tk u :: ns) = bdE am tk u D := by
  have e : totI ((am : Int) :: mulV tk u :: ns) = bdT am tk u D := by
    simp only [totI, bdT, mulV, if_pos h, hs]; omega
  have h' : tk * u < 18446744073709551616 := by rw [← Int.natCast_mul] at h; omega
  unfold totV totE bdV bdE
  rw [e]
  by_cases hb : bdT am tk u D < 18446744073709551616
  · simp [hb, h']
  · simp [hb]
variable {w : World} {cb h n i out am tk : Nat} {seed tx : ByteArray} {l : Lk} {D : DU}
set_option maxRecDepth 100000 in
set_option maxHeartbeats 2000000 in
theorem sbound_any (am' tk' mb' : Nat) (D' : DU) (k : ClAt w cb seed h n i tx out l am tk D) (hl : l.ok) (h1 : am' < 18446744073709551616) (h2 : tk' ≤ 1000000) (hm : MpU w mb' D') (hz : Maps.size D' ≤ 1000) :
    Calls Tryz.prog 204 #[.pointer (some ⟨cb, 0, none⟩), .agg (relC am' tk' mb')] w fun e w' => e = .returned (.tuple #[.int .u64 (bdV am' tk' l.unit D'), .int .i64 (bdE am' tk' l.unit D')]) ∧ Below w.heap.size w w' := by
  obtain ⟨kb, ctr, pb, mb, hc, _, _, _⟩ := k
  have hu := hl.unit
  obtain ⟨i0, hi, hz0, hz1, hz2⟩ := info_parts Tryz.infoU64
  have Hhz := Lib.hid hz0
  clear hz0 hl
  have HP := fun W => Lib.hid (pvalue_any tk' l.unit W (by omega) hu)
  have hcb := hc.lt
  have HC0 : Hid (Blk (w.alloc (.cells (relC am' tk' mb') 250)) cb 252 (clC kb pb mb tx out l am tk)) := hc.alloc _
  have HR0 : Hid (Blk (w.alloc (.cells (relC am' tk' mb') 250)) w.heap.size 250 (relC am' tk' mb')) := Blk.new _ _ _
  have HM0 : Hid (MpU (w.alloc (.cells (relC am' tk' mb') 250)) mb' D') := hm.ch (Ch.alloc [] _ _) (by simp)
  have HB0 : Hid (Below w.heap.size w (w.alloc (.cells (relC am' tk' mb') 250))) := (Below.refl _ _).alloc (Nat.le_refl _) _
  clear hc hm
  go_enter Tryz.func204, Tryz.ntmps204
  go_wp2_with fail
  obtain ⟨WX, hWX⟩ : ∃ WX, w.alloc (.cells (relC am' tk' mb') 250) = WX := ⟨_, rfl⟩
  rw [hWX] at HC0 HR0 HM0 HB0
  change Code.wp _ _ _ _ (w.alloc (.cells (relC am' tk' mb') 250))
  rw [hWX]
  clear hWX
  have r0 := HR0.out.cell 0
  have r1 := HR0.out.cell 1
  have r2 := HR0.out.cell 2
  have c10 := HC0.out.cell 10
  simp [relC, clC] at r0 r1 r2 c10
  have hltr := HR0.out.lt
  have r2a : ∀ o, (WX.alloc o).cell? ⟨w.heap.size, 2, none⟩ = some (.map (some mb')) := fun o => (World.cell?_alloc_lt WX o ⟨w.heap.size, 2, none⟩ hltr).trans r2
  have HMA : Hid (∀ o, MpU ((WX.alloc o).drew) mb' D') := fun o => HM0.out.ch ((Ch.alloc [] WX o).trans (Ch.drewN _ _ 1)) (by simp)
  go_region_law (first
    | (go_simp; go_at_call 200; refine (HP _).out.mono ?_; rintro e wa ⟨rfl, rfl⟩))
  all_goals
    go_wp2_with (first
      | (at_range; refine wpList_range_own _ rfl _ 248 rfl 55 55 lawU Tryz.underlying248 _ mb' _ _ rfl (HMA.out _) ?_; intro w0 hrg0 hg0 hs0; have HRG0 := Lib.hid hrg0; have HG0 := Lib.hid hg0; clear hrg0 hg0)
      | go_in)
    go_frame
    have HBX : Hid (Below w.heap.size w ((WX.alloc (.cells #[.int .u64 (am' : Nat), .int .u64 (mulV tk' l.unit)] 55)).drew)) := ((HB0.out.alloc HB0.out.size _).drew)
    have HBZ : Hid (Below w.heap.size w w0) := HBX.out.grown HG0.out (HBX.out.size) (fun _ h => by cases h)
    have HO0 : Hid (w0.ownsRow w.heap.size 55 1 (.slice (some ⟨WX.heap.size, 0, none⟩) 2 2) 2 [.int .u64 (am' : Nat), .int .u64 (mulV tk' l.unit)]) := Ch.owns (S := []) ((Ch.drewN [] _ 1).trans (ch_none HG0.out)) (own_lit (Blk.new WX _ #[.int .u64 (am' : Nat), .int .u64 (mulV tk' l.unit)]) HB0.out.size rfl (by unfold maxLen; omega)) (by simp)
    clear hs0 r2a HMA
    have hRS : w.heap.size ≤ ((WX.alloc (.cells #[.int .u64 (am' : Nat), .int .u64 (mulV tk' l.unit)] 55)).drew).heap.size := HBX.out.size
    generalize hR : ((WX.alloc (.cells #[.int .u64 (am' : Nat), .int .u64 (mulV tk' l.unit)] 55)).drew).heap.size = R at *
    go_loopw [8] (fun v wr => ∃ (left : Lit → Bool) (cnt : Nat) (ns : List Int) (A : Option Addr) (c : Nat), v = .slice A (ns.length + 2) c ∧ Hid (wr.ownsRow w.heap.size 55 1 (.slice A (ns.length + 2) c) (ns.length + 2) (((am' : Int) :: mulV tk' l.unit :: ns).map (Value.int .u64))) ∧ Hid (wr.ranges Tryz.prog 55 elU mb' R (Maps.size D') D' left cnt) ∧ totI ns + sD left D' = allD D' ∧ (∀ x ∈ ns, 0 ≤ x ∧ x < 18446744073709551616) ∧ ns.length + cnt ≤ 1000 ∧ Hid (Below w.heap.size w wr)) (fun _ wr => wr.rangeLeft mb' R)
    case atStart => exact ⟨_, _, [], _, _, rfl, HO0, HRG0, by simp [totI, allD], by simp, by simpa using hz, HBZ⟩
    case round =>
      obtain ⟨left, cnt, ns, A, c, rfl, HO, HRG, hsum, hbd, hlen, HB⟩ := hrel
      obtain ⟨oi, hi1, hi2⟩ := ranges_iter HRG.out
      have tok1 : True := trivial
      go_wp2_with (first
        | (clear tok1; at_next; refine wpList_next_ranges_ii _ rfl _ rfl 55 55 .u64 .u64 lawU Tryz.underlying55 Tryz.underlying55 mb' R (Maps.size D') _ _ _ rfl HRG.out ?_ ?_)
        | go_in)
      · intro _ hl0
        have hs0 : totI ns = allD D' := by rw [sD_end left D' hl0] at hsum; omega
        have hmv := mulV_bd tk' l.unit
        have HS := Lib.hid (sum64_any A ((am' : Int) :: mulV tk' l.unit :: ns) c wr (by simp; omega) (by
          intro x hx
          simp only [List.mem_cons] at hx
          rcases hx with e | e | hx
          · rw [e]; omega
          · rw [e]; exact hmv
          · exact hbd x hx) (Sl.of_own (base := w.heap.size) (n := ns.length + 2) (c := c) (e := 55) (fun _ => rfl) (by rw [u64_flat]; exact HO.out)))
        by_cases hq : (tk' : Int) * l.unit < 18446744073709551616
        · obtain ⟨y1, y2⟩ := bd_yes (am := am') hq hs0
          rw [y1, y2] at HS
          have hne : mulE (tk' : Int) l.unit = 0 := if_pos hq
          go_wp2_with fail
          refine HS.out.mono ?_
          rintro e w2 ⟨rfl, rfl⟩
          go_wp2
          go_ret2
          exact ⟨rfl, HB.out⟩
        · obtain ⟨y1, y2⟩ := bd_no (am := am') (D := D') hq
          have hne : mulE (tk' : Int) l.unit = 2 := if_neg hq
          go_wp2_with fail
          refine HS.out.mono ?_
          rintro e w2 ⟨rfl, rfl⟩
          go_wp2
          go_ret2
          exact ⟨ret_ii y1.symm y2.symm, HB.out⟩
      · intro x c1 w1 cnt1 hwx hwc hlx hat hrg1 hlt hg1 hs1 hen
        obtain ⟨b0, b1⟩ := wf64 hwc
        have hsm : sD left D' = c1 + sD (fun z => left z && !z.sameKey (.int .u64 x)) D' := sD_step left D' _ c1 (World.ownsMap.tidy HRG.out.owns lawU) trivial hlx hat
        have HO1 : Hid (w1.ownsRow w.heap.size 55 1 (.slice A (ns.length + 2) c) (ns.length + 2) (((am' : Int) :: mulV tk' l.unit :: ns).map (Value.int .u64))) := Ch.owns (Ch.of_grown hg1) HO.out (own_ne_iter HO.out hi1 hi2)
        have HB1 : Hid (Below w.heap.size w w1) := HB.out.grown hg1 HB.out.size (fun j hj => by cases hj; exact hRS)
        have HRG1 := Lib.hid hrg1
        have hlt1 := hlt
        clear hg1 hrg1 hat
        go_wp2_with (first
          | (at_builtin; refine wpList_append_own _ rfl (.tmp 37) (.tmp 39) _ rfl w.heap.size 55 i0 _ 1 8 Tryz.underlying222 hi Hhz.out hz1 hz2 rfl (by decide) _ (ns.length + 2) _ rfl (HO1.out.alloc _) ⟨wr.heap.size, 0, none⟩ 1 1 [.int .u64 c1] rfl rfl (news_alloc _ _ _ _ _ rfl hs1.symm) (one_int _) (by simp only [maxLen]; omega) (by omega) (by have := HB1.out.size; simp; omega) ?_; intro v' w3 hown3 hg3 hnil3; have HO3 := Lib.hid hown3; have HG3 := Lib.hid hg3; clear hown3 hg3)
          | go_in)
        obtain ⟨oi', hi1', hi2'⟩ := ranges_iter HRG1.out
        obtain ⟨om, hm1, hm2⟩ := ranges_map HRG1.out
        have HOA : Hid ((w1.alloc (.cells #[.int .u64 c1] 55)).ownsRow w.heap.size 55 1 (.slice A (ns.length + 2) c) (ns.length + 2) (((am' : Int) :: mulV tk' l.unit :: ns).map (Value.int .u64))) := HO1.out.alloc _
        have HRG3 : Hid (w3.ranges Tryz.prog 55 elU mb' R (Maps.size D') D' (fun z => left z && !z.sameKey (.int .u64 x)) cnt1) :=
          (HRG1.out.alloc _).kept HG3.out (fun e => own_ne_iter HO1.out hm1 hm2 mb' e.symm (by simp)) (fun e => own_ne_iter HO1.out hi1' hi2' R e.symm (by simp))
        go_roundw
        case rel =>
          obtain ⟨A3, c3, rfl⟩ := own_form HO3.out
          have e : (((am' : Int) :: mulV tk' l.unit :: ns).map (Value.int .u64)) ++ [.int .u64 c1] = (((am' : Int) :: mulV tk' l.unit :: (ns ++ [c1])).map (Value.int .u64)) := by simp
          rw [e] at HO3
          refine ⟨_, cnt1, ns ++ [c1], A3, c3, by simp <;> omega, ?_, HRG3, ?_, ?_, by simp; omega, ?_⟩
          · simpa using HO3
          · rw [totI_append]; simp only [totI]; omega
          · intro y hy
            rcases List.mem_append.1 hy with h | h
            · exact hbd y h
            · simp at h; subst h; exact ⟨b0, b1⟩
          · exact (HB1.out.alloc HB1.out.size _).grown HG3.out (by have := HB1.out.size; simp; omega) (fun g hg => (HO1.out.lt g hg).1)
        case measure => rw [HRG3.out.left_eq, HRG.out.left_eq]; exact hlt1
end Go.Proofs.YtmbceheafjadhaaGreat
namespace Go.Proofs.YtmbceheafjadhaaGreat
open Go.RowKit Go.Maps
theorem infoRel : (Tryz.prog.info? 250).map (·.size) = some 3 := by kernel_rfl
def bdOk (am tk u : Nat) (D : DU) : Prop := tk * u < 18446744073709551616 ∧ bdT am tk u D < 18446744073709551616
instance (am tk u : Nat) (D : DU) : Decidable (bdOk am tk u D) := inferInstanceAs (Decidable (_ ∧ _))
def boundV (am tk u : Nat) (D : DU) : Int := if bdOk am tk u D then bdT am tk u D else 18446744073709551615
def roomE (am tk u lam : Nat) (D : DU) : Int := if bdOk am tk u D ∧ bdT am tk u D ≤ lam then 0 else 9
theorem bdV_ok {am tk u : Nat} {D : DU} (h : bdOk am tk u D) : bdV am tk u D = bdT am tk u D ∧ bdE am tk u D = 0 := ⟨if_pos h, if_pos h⟩
theorem bdV_no {am tk u : Nat} {D : DU} (h : ¬ bdOk am tk u D) : bdV am tk u D = 0 ∧ bdE am tk u D = 2 := ⟨if_neg h, if_neg h⟩
variable {w : World} {cb h n i out am tk : Nat} {seed tx : ByteArray} {l : Lk} {D : DU}
set_option maxRecDepth 100000 in
set_option maxHeartbeats 1000000 in
theorem sBound_any (k : ClAt w cb seed h n i tx out l am tk D) (hl : l.ok) (h1 : am < 18446744073709551616) (h2 : tk ≤ 1000000) (hz : Maps.size D ≤ 1000) :
    Calls Tryz.prog 160 #[.pointer (some ⟨cb, 0, none⟩)] w fun e w' => e = .returned (.int .u64 (boundV am tk l.unit D)) ∧ Below w.heap.size w w' := by
  obtain ⟨kb, ctr, pb, mb, hc, hk1, hk2, hm⟩ := id k
  have HBD := Lib.hid (sbound_any am tk mb D k hl h1 h2 hm hz)
  have HC := Lib.hid hc
  clear hc hk1 hk2 hm k
  by_cases hok : bdOk am tk l.unit D
  · obtain ⟨e1, e2⟩ := bdV_ok hok
    rw [e1, e2] at HBD
    have e3 : boundV am tk l.unit D = bdT am tk l.unit D := if_pos hok
    rw [e3]
    clear e1 e2 e3
    generalize bdT am tk l.unit D = T at *
    go_enter Tryz.func160, Tryz.ntmps160
    go_wp2_with (first | (refine wpList_load_blk rfl 250 (.tmp 9) rfl cb 23 3 HC.out (relC am tk mb) (by rfl) (by simp [clC, relC]) Tryz.underlying250 infoRel (by simp [clC]) ?_))
    refine HBD.out.mono ?_
    rintro e w1 ⟨rfl, hb⟩
    have HB := Lib.hid hb
    have c22 := (HC.out.bel hb).cell 22
    simp [clC] at c22
    clear hb
    go_wp2_with fail
    go_ret
    exact ⟨rfl, HB.out⟩
  · obtain ⟨e1, e2⟩ := bdV_no hok
    rw [e1, e2] at HBD
    have e3 : boundV am tk l.unit D = 18446744073709551615 := if_neg hok
    rw [e3]
    clear e1 e2 e3
    go_enter Tryz.func160, Tryz.ntmps160
    go_wp2_with (first | (refine wpList_load_blk rfl 250 (.tmp 9) rfl cb 23 3 HC.out (relC am tk mb) (by rfl) (by simp [clC, relC]) Tryz.underlying250 infoRel (by simp [clC]) ?_))
    refine HBD.out.mono ?_
    rintro e w1 ⟨rfl, hb⟩
    have HB := Lib.hid hb
    have c22 := (HC.out.bel hb).cell 22
    simp [clC] at c22
    clear hb
    go_wp2_with fail
    go_ret
    exact ⟨rfl, HB.out⟩
set_option maxRecDepth 100000 in
set_option maxHeartbeats 1000000 in
theorem sroom_any (am' tk' mb' : Nat) (D' : DU) (k : ClAt w cb seed h n i tx out l am tk D) (hl : l.ok) (h1 : am' < 18446744073709551616) (h2 : tk' ≤ 1000000) (hm : MpU w mb' D') (hz : Maps.size D' ≤ 1000) :
    Calls Tryz.prog 152 #[.pointer (some ⟨cb, 0, none⟩), .agg (relC am' tk' mb')] w fun e w' => e = .returned (.int .i64 (roomE am' tk' l.unit l.am D')) ∧ Below w.heap.size w w' := by
  have hbx : Below w.heap.size w (w.alloc (.cells (relC am' tk' mb') 250)) := (Below.refl _ _).alloc (Nat.le_refl _) _
  have HBD := Lib.hid (sbound_any am' tk' mb' D' (k.bel hbx) hl h1 h2 (hm.ch (Ch.of_below hbx []) (by simp)) hz)
  have HR : Hid (Blk (w.alloc (.cells (relC am' tk' mb') 250)) w.heap.size 250 (relC am' tk' mb')) := Blk.new _ _ _
  have HK := Lib.hid (k.bel hbx)
  have HX := Lib.hid hbx
  have hlam := hl.am
  have HL := Lib.hid hl
  clear k hm hl hbx
  by_cases hok : bdOk am' tk' l.unit D'
  · obtain ⟨e1, e2⟩ := bdV_ok hok
    rw [e1, e2] at HBD
    have e3 : roomE am' tk' l.unit l.am D' = if bdT am' tk' l.unit D' ≤ l.am then 0 else 9 := by simp [roomE, hok]
    rw [e3]
    clear e1 e2 e3
    generalize bdT am' tk' l.unit D' = T at *
    go_enter Tryz.func152, Tryz.ntmps152
    go_wp2_with (first | (refine wpList_load_blk rfl 250 (.tmp 3) rfl w.heap.size 0 3 HR.out (relC am' tk' mb') (by rfl) (by simp [relC]) Tryz.underlying250 infoRel (by simp [relC]) ?_))
    refine HBD.out.mono ?_
    rintro e w1 ⟨rfl, hb⟩
    have HB := Lib.hid (HX.out.trans (hb.mono HX.out.size))
    have HK1 := Lib.hid (HK.out.bel hb)
    clear hb
    go_wp2_with fail
    refine (swhole_any HK1.out HL.out).mono ?_
    rintro e w2 ⟨rfl, hb2⟩
    have HB2 := Lib.hid (HB.out.trans (hb2.mono HB.out.size))
    clear hb2
    by_cases hT : T ≤ l.am
    · have d1 : decide ((l.am : Int) < T) = false := decide_eq_false (by omega)
      go_wp2_with fail
      go_ret
      exact ⟨ret_int (by first | rfl | rw [if_pos hT] | rw [if_pos (by omega)]), HB2.out⟩
    · have d1 : decide ((l.am : Int) < T) = true := decide_eq_true (by omega)
      go_wp2_with fail
      go_ret
      exact ⟨ret_int (by first | rfl | rw [if_neg hT] | rw [if_neg (by omega)]), HB2.out⟩
  · obtain ⟨e1, e2⟩ := bdV_no hok
    rw [e1, e2] at HBD
    have e3 : roomE am' tk' l.unit l.am D' = 9 := by simp [roomE, hok]
    rw [e3]
    clear e1 e2 e3
    go_enter Tryz.func152, Tryz.ntmps152
    go_wp2_with (first | (refine wpList_load_blk rfl 250 (.tmp 3) rfl w.heap.size 0 3 HR.out (relC am' tk' mb') (by rfl) (by simp [relC]) Tryz.underlying250 infoRel (by simp [relC]) ?_))
    refine HBD.out.mono ?_
    rintro e w1 ⟨rfl, hb⟩
    have HB := Lib.hid (HX.out.trans (hb.mono HX.out.size))
    clear hb
    go_wp2_with fail
    go_ret
    exact ⟨rfl, HB.out⟩
end Go.Proofs.YtmbceheafjadhaaGreat
namespace Go.Proofs.YtmbceheafjadhaaGreat
open Go.RowKit Go.Maps
/-- a part of a block is written: the world behind it by what is known of it -/
theorem wpList_store_part {ops : Array Oper} {rest : List Oper} {o : Oper} {a : Act} {w : World} {Q : Exit → Act → World → Prop} (hgd : o.guard = none) (ty : TypeId) (x y : Operand) (ho : o.op = .store ty x y)
    (g off : Nat) {t : TypeId} {cs : Array Value} (hb : Blk w g t cs) (cells cs' : Array Value) (hx : a.eval x = .pointer (some ⟨g, off, none⟩)) (hy : a.eval y = .agg cells)
    (hs : off + cells.size ≤ cs.size) (hi : (Tryz.prog.info? ty).map (·.size) = some cells.size) (h1 : cells.all (·.oneCell') = true) (hc : over cs off cells.toList = cs')
    (h : ∀ W, Blk W g t cs' → Ch [g] w W → wpList Tryz.prog ops Q rest (a.put o.dst undef) W) : wpList Tryz.prog ops Q (o :: rest) a w :=
  wpList_store_mid hgd ty x y ho g off cells hx hy (fun j hj => ⟨by rw [hb.cell, Array.getElem?_eq_getElem (by omega)]; rfl, hb.frozen _⟩) hi h1
    (h _ (hc ▸ blk_setCells cells.toList off hb) (Ch.setCells (by simp) _ _ _))
/-- .. in a region that draws its order -/
theorem step_store_part {ops : Array Oper} {o : Oper} {a : Act} {w : World} {K : Act → World → Prop} {Q : Exit → Act → World → Prop} {E : Prop} (hgd : o.guard = none) (ty : TypeId) (x y : Operand) (ho : o.op = .store ty x y)
    (g off : Nat) {t : TypeId} {cs : Array Value} (hb : Blk w g t cs) (cells cs' : Array Value) (hx : a.eval x = .pointer (some ⟨g, off, none⟩)) (hy : a.eval y = .agg cells)
    (hs : off + cells.size ≤ cs.size) (hi : (Tryz.prog.info? ty).map (·.size) = some cells.size) (h1 : cells.all (·.oneCell') = true) (hc : over cs off cells.toList = cs')
    (h : ∀ W, Blk W g t cs' → Ch [g] w W → K (a.put o.dst undef) W) : if Region.wanted o (yielded ops a.tmps) = true then Oper.wp Tryz.prog o a w K Q else E := by
  have hw : Region.wanted o (yielded ops a.tmps) = true := by simp [Region.wanted, hgd]
  rw [if_pos hw]
  exact wp_store_mid ty x y ho g off cells hx hy (fun j hj => ⟨by rw [hb.cell, Array.getElem?_eq_getElem (by omega)]; rfl, hb.frozen _⟩) hi h1
    (h _ (hc ▸ blk_setCells cells.toList off hb) (Ch.setCells (by simp) _ _ _))
def opC (kind : Nat) (ch : ByteArray) (am : Nat) (s : ByteArray) (t : Array Value) : Array Value := #[.int .i64 (kind : Nat), .string ch, .string ByteArray.empty, .int .i64 0, .int .i64 0, .int .u64 0, .string ByteArray.empty, .string ByteArray.empty, .int .i64 0, .string ByteArray.empty, .int .u64 0, .int .i64 0, .string ByteArray.empty, .int .u64 (am : Nat), .int .u64 0, .int .u64 0, .int .u64 0, .string s] ++ t ++ #[.int .i64 0]
def zTk : Array Value := #[.string ByteArray.empty, .int .u64 0, .int .u64 0, .int .u64 0, .int .u64 0, .string ByteArray.empty, .int .u64 0, .string ByteArray.empty]
def opP (kind : Nat) (ch : ByteArray) (am : Nat) (s : ByteArray) : Array Value := #[.int .i64 (kind : Nat), .string ch, .string ByteArray.empty, .int .i64 0, .int .i64 0, .int .u64 0, .string ByteArray.empty, .string ByteArray.empty, .int .i64 0, .string ByteArray.empty, .int .u64 0, .int .i64 0, .string ByteArray.empty, .int .u64 (am : Nat), .int .u64 0, .int .u64 0, .int .u64 0, .string s, .string ByteArray.empty, .int .u64 0, .int .u64 0, .int .u64 0, .int .u64 0, .string ByteArray.empty, .int .u64 0, .string ByteArray.empty, .int .i64 0]
theorem infoOp : (Tryz.prog.info? 147).map (·.size) = some 27 := by kernel_rfl
theorem opP_one (kind : Nat) (ch : ByteArray) (am : Nat) (s : ByteArray) : (opP kind ch am s).all (·.oneCell') = true := by
  rw [Array.all_eq_true']
  intro x hx
  simp only [opP, List.mem_toArray, List.mem_cons, List.not_mem_nil, or_false] at hx
  rcases hx with rfl | rfl | rfl | rfl | rfl | rfl | rfl | rfl | rfl | rfl | rfl | rfl | rfl | rfl | rfl | rfl | rfl | rfl | rfl | rfl | rfl | rfl | rfl | rfl | rfl | rfl | rfl <;> rfl
theorem opP_size (kind : Nat) (ch : ByteArray) (am : Nat) (s : ByteArray) : (opP kind ch am s).size = 27 := rfl
theorem opP_over (kind : Nat) (ch : ByteArray) (am : Nat) (s : ByteArray) (kind' : Nat) (ch' : ByteArray) (am' : Nat) (s' : ByteArray) : over (opP kind ch am s) 0 (opP kind' ch' am' s').toList = opP kind' ch' am' s' := by
  exact (over_full (opP kind' ch' am' s').toList (opP kind ch am s) (by rw [Array.length_toList, opP_size, opP_size])).trans (Array.toArray_toList ..)
theorem opP_fits (kind : Nat) (ch : ByteArray) (am : Nat) (s : ByteArray) (kind' : Nat) (ch' : ByteArray) (am' : Nat) (s' : ByteArray) : 0 + (opP kind' ch' am' s').size ≤ (opP kind ch am s).size := by
  rw [opP_size, opP_size]; omega
theorem relC_one (am tk mb : Nat) : (relC am tk mb).all (·.oneCell') = true := by
  rw [Array.all_eq_true']
  intro x hx
  simp only [relC, List.mem_toArray, List.mem_cons, List.not_mem_nil, or_false] at hx
  rcases hx with rfl | rfl | rfl <;> rfl
def padC (cb am tk mb : Nat) : Array Value := #[.pointer (some ⟨cb, 0, none⟩), .int .u64 (am : Nat), .int .i64 (tk : Nat), .map (some mb)]
variable {w : World} {cb h n i out am tk : Nat} {seed tx : ByteArray} {l : Lk} {D : DU}
set_option maxRecDepth 100000 in
theorem sname_blk (kb pb mb : Nat) (hc : Blk w cb 252 (clC kb pb mb tx out l am tk)) (ho : out < 256) (hz : tx.size ≤ 1000000) :
    Calls Tryz.prog 154 #[.pointer (some ⟨cb, 0, none⟩)] w fun e w' => e = .returned (.string (nameB tx out)) ∧ Below w.heap.size w w' := by
  have c22 := hc.cell 22
  simp [clC] at c22
  have H1 := Lib.hid hc
  clear hc
  go_enter Tryz.func154, Tryz.ntmps154
  go_wp2_with (first | (refine wpList_load_blk rfl 54 (.tmp 12) rfl cb 2 2 H1.out #[.string tx, .int .i64 out] (by rfl) (by simp [clC]) Tryz.underlying54 infoPnt (by simp [clC]) ?_))
  refine (cname_any tx out w ho hz).mono ?_
  rintro e w1 ⟨rfl, hb⟩
  have HB := Lib.hid hb
  clear hb
  go_wp2
  go_ret
  exact ⟨rfl, HB.out⟩
set_option maxRecDepth 100000 in
set_option maxHeartbeats 2000000 in
theorem paidlay_any (kb pb mb am' tk' mb' : Nat) (sig : ByteArray) (hc : Blk w cb 252 (clC kb pb mb tx out l am tk)) (ho : out < 256) (hz : tx.size ≤ 1000000) :
    Calls Tryz.prog 155 #[.agg (padC cb am' tk' mb'), .string sig] w fun e w' => e = .returned (.agg (opP 2 (nameB tx out) am' sig)) ∧ Blk w' cb 252 (clC kb pb mb' tx out l am' tk') ∧ Ch [cb] w w' := by
  have hlt := hc.lt
  unfold padC
  go_enter Tryz.func155, Tryz.ntmps155
  go_wp2_with (first
    | (refine wpList_store_part rfl 250 (.tmp 10) (.tmp 8) rfl cb 23 ((hc.alloc _).alloc _) (relC am' tk' mb') (clC kb pb mb' tx out l am' tk') (by rfl) (by rfl) (by simp [clC, relC]) infoRel (relC_one _ _ _) (by simp [clC, relC, over]) ?_; intro W1 hb1 hc1; have H1 := Lib.hid hb1; have C1 := Lib.hid hc1; clear hb1 hc1))
  have HP1 : Hid (Blk W1 w.heap.size 257 #[.pointer (some ⟨cb, 0, none⟩), .int .u64 (am' : Nat), .int .i64 (tk' : Nat), .map (some mb')]) := Blk.ch ((Blk.new w _ _).alloc _) C1.out (by simp; omega)
  have HO1 : Hid (Blk W1 (w.heap.size + 1) 147 (opP 0 ByteArray.empty 0 ByteArray.empty)) := Blk.ch (Blk.newAt (by simp)) C1.out (by simp; omega)
  have p0 := HP1.out.cell 0
  have p1 := HP1.out.cell 1
  simp at p0 p1
  have HCW : Hid (Ch [cb] w W1) := (((Ch.alloc [cb] w _).trans (Ch.alloc _ _ _)).trans C1.out)
  clear hc C1
  refine wp_region_any (by kernel_rfl) ?_
  try (change wpAny _ _ _ _ _ _ _ (World.drew _))
  refine wpAny_take (i := 0) (v := ?_) rfl (by kernel_rfl) (by kernel_rfl) (by kernel_rfl) (fun _ _ _ h => h) (Or.inl ⟨by rfl, ?_⟩) ?_
  rotate_left
  · (intro w; go_simp; try with_reducible rfl)
  refine wpAny_take (i := 3) (v := ?_) rfl (by kernel_rfl) (by kernel_rfl) (by kernel_rfl) (fun _ _ _ h => h) (Or.inl ⟨by rfl, ?_⟩) ?_
  rotate_left
  · (intro w; go_simp; try with_reducible rfl)
  refine wpAny_take (i := 4) (v := ?_) rfl (by kernel_rfl) (by kernel_rfl) (by kernel_rfl) (fun _ _ _ h => h) (Or.inl ⟨by rfl, ?_⟩) ?_
  rotate_left
  · (intro w; go_simp; try with_reducible rfl)
  refine wpAny_take (i := 6) (v := ?_) rfl (by kernel_rfl) (by kernel_rfl) (by kernel_rfl) (fun _ _ _ h => h) (Or.inl ⟨by rfl, ?_⟩) ?_
  rotate_left
  · (intro w; go_simp; try with_reducible rfl)
  refine wpAny_ready (rs := [1, 5]) (by kernel_rfl) (by simp) (AllReady.cons rfl (fun K hK => ?_) (AllReady.cons rfl (fun K hK => ?_) AllReady.nil))
  · go_simp
    refine hK _ _ ?_
    clear hK K
    refine wpAny_ready (rs := [2, 5]) (by kernel_rfl) (by simp) (AllReady.cons rfl (fun K hK => ?_) (AllReady.cons rfl (fun K hK => ?_) AllReady.nil))
    · go_simp
      refine (sname_blk (w := World.drew W1) kb pb mb' (show Blk (World.drew W1) cb _ _ from H1.out) ho hz).mono ?_
      rintro e w2 ⟨rfl, hb2⟩
      have HB2 : Hid (Below W1.heap.size W1 w2) := ((Below.refl W1.heap.size W1).drew).trans hb2
      have q0 := (HP1.out.bel HB2.out).cell 0
      have q1 := (HP1.out.bel HB2.out).cell 1
      simp at q0 q1
      have HO2 := Lib.hid (HO1.out.bel HB2.out)
      clear hb2
      go_simp
      refine hK _ _ ?_
      clear hK K
      refine wpAny_ready (rs := [5]) (by kernel_rfl) (by simp) (AllReady.cons rfl (fun K hK => ?_) AllReady.nil)
      go_simp
      refine hK _ _ ?_
      clear hK K
      refine wpAny_take (i := 7) (v := ?_) rfl (by kernel_rfl) (by kernel_rfl) (by kernel_rfl) (fun _ _ _ h => h) (Or.inl ⟨by rfl, ?_⟩) ?_
      rotate_left
      · (intro w; go_simp; try with_reducible rfl)
      refine wpAny_ready (rs := [8]) (by kernel_rfl) (by simp) (AllReady.cons rfl (fun K hK => ?_) AllReady.nil)
      refine step_store_part (by rfl) 147 (.tmp 4) (.tmp 18) (by rfl) (w.heap.size + 1) 0 HO2.out (opP 2 (nameB tx out) am' sig) (opP 2 (nameB tx out) am' sig) (by rfl) (by rfl) (opP_fits _ _ _ _ _ _ _ _) infoOp (opP_one _ _ _ _) (opP_over _ _ _ _ _ _ _ _) ?_
      intro W3 hb3 hc3
      have HO3 := Lib.hid hb3
      have HC3 := Lib.hid hc3
      clear hb3 hc3
      refine hK _ _ ?_
      clear hK K
      refine wpAny_done (by kernel_rfl) ?_ _
      go_wp2_with fail
      exact bodyPost_ret (results_cell_row rfl _ _ (w.heap.size + 1) 147 _ (0, 0) _ rfl HO3.out Tryz.underlying147 rfl infoOp) rfl ⟨rfl, Blk.ch (H1.out.bel HB2.out) HC3.out (by simp; omega), (((HCW.out.mono (S' := [cb, w.heap.size + 1]) (by simp)).trans (Ch.of_below HB2.out _)).trans (HC3.out.mono (by simp))).mono (by simp)⟩
    · go_simp
      refine hK _ _ ?_
      clear hK K
      refine wpAny_ready (rs := [2]) (by kernel_rfl) (by simp) (AllReady.cons rfl (fun K hK => ?_) AllReady.nil)
      go_simp
      refine (sname_blk (w := World.drew W1) kb pb mb' (show Blk (World.drew W1) cb _ _ from H1.out) ho hz).mono ?_
      rintro e w2 ⟨rfl, hb2⟩
      have HB2 : Hid (Below W1.heap.size W1 w2) := ((Below.refl W1.heap.size W1).drew).trans hb2
      have q0 := (HP1.out.bel HB2.out).cell 0
      have q1 := (HP1.out.bel HB2.out).cell 1
      simp at q0 q1
      have HO2 := Lib.hid (HO1.out.bel HB2.out)
      clear hb2
      go_simp
      refine hK _ _ ?_
      clear hK K
      refine wpAny_take (i := 7) (v := ?_) rfl (by kernel_rfl) (by kernel_rfl) (by kernel_rfl) (fun _ _ _ h => h) (Or.inl ⟨by rfl, ?_⟩) ?_
      rotate_left
      · (intro w; go_simp; try with_reducible rfl)
      refine wpAny_ready (rs := [8]) (by kernel_rfl) (by simp) (AllReady.cons rfl (fun K hK => ?_) AllReady.nil)
      refine step_store_part (by rfl) 147 (.tmp 4) (.tmp 18) (by rfl) (w.heap.size + 1) 0 HO2.out (opP 2 (nameB tx out) am' sig) (opP 2 (nameB tx out) am' sig) (by rfl) (by rfl) (opP_fits _ _ _ _ _ _ _ _) infoOp (opP_one _ _ _ _) (opP_over _ _ _ _ _ _ _ _) ?_
      intro W3 hb3 hc3
      have HO3 := Lib.hid hb3
      have HC3 := Lib.hid hc3
      clear hb3 hc3
      refine hK _ _ ?_
      clear hK K
      refine wpAny_done (by kernel_rfl) ?_ _
      go_wp2_with fail
      exact bodyPost_ret (results_cell_row rfl _ _ (w.heap.size + 1) 147 _ (0, 0) _ rfl HO3.out Tryz.underlying147 rfl infoOp) rfl ⟨rfl, Blk.ch (H1.out.bel HB2.out) HC3.out (by simp; omega), (((HCW.out.mono (S' := [cb, w.heap.size + 1]) (by simp)).trans (Ch.of_below HB2.out _)).trans (HC3.out.mono (by simp))).mono (by simp)⟩
  · go_simp
    refine hK _ _ ?_
    clear hK K
    refine wpAny_ready (rs := [1]) (by kernel_rfl) (by simp) (AllReady.cons rfl (fun K hK => ?_) AllReady.nil)
    go_simp
    refine hK _ _ ?_
    clear hK K
    refine wpAny_ready (rs := [2]) (by kernel_rfl) (by simp) (AllReady.cons rfl (fun K hK => ?_) AllReady.nil)
    go_simp
    refine (sname_blk (w := World.drew W1) kb pb mb' (show Blk (World.drew W1) cb _ _ from H1.out) ho hz).mono ?_
    rintro e w2 ⟨rfl, hb2⟩
    have HB2 : Hid (Below W1.heap.size W1 w2) := ((Below.refl W1.heap.size W1).drew).trans hb2
    have q0 := (HP1.out.bel HB2.out).cell 0
    have q1 := (HP1.out.bel HB2.out).cell 1
    simp at q0 q1
    have HO2 := Lib.hid (HO1.out.bel HB2.out)
    clear hb2
    go_simp
    refine hK _ _ ?_
    clear hK K
    refine wpAny_take (i := 7) (v := ?_) rfl (by kernel_rfl) (by kernel_rfl) (by kernel_rfl) (fun _ _ _ h => h) (Or.inl ⟨by rfl, ?_⟩) ?_
    rotate_left
    · (intro w; go_simp; try with_reducible rfl)
    refine wpAny_ready (rs := [8]) (by kernel_rfl) (by simp) (AllReady.cons rfl (fun K hK => ?_) AllReady.nil)
    refine step_store_part (by rfl) 147 (.tmp 4) (.tmp 18) (by rfl) (w.heap.size + 1) 0 HO2.out (opP 2 (nameB tx out) am' sig) (opP 2 (nameB tx out) am' sig) (by rfl) (by rfl) (opP_fits _ _ _ _ _ _ _ _) infoOp (opP_one _ _ _ _) (opP_over _ _ _ _ _ _ _ _) ?_
    intro W3 hb3 hc3
    have HO3 := Lib.hid hb3
    have HC3 := Lib.hid hc3
    clear hb3 hc3
    refine hK _ _ ?_
    clear hK K
    refine wpAny_done (by kernel_rfl) ?_ _
    go_wp2_with fail
    exact bodyPost_ret (results_cell_row rfl _ _ (w.heap.size + 1) 147 _ (0, 0) _ rfl HO3.out Tryz.underlying147 rfl infoOp) rfl ⟨rfl, Blk.ch (H1.out.bel HB2.out) HC3.out (by simp; omega), (((HCW.out.mono (S' := [cb, w.heap.size + 1]) (by simp)).trans (Ch.of_below HB2.out _)).trans (HC3.out.mono (by simp))).mono (by simp)⟩
end Go.Proofs.YtmbceheafjadhaaGreat
namespace Go.Proofs.YtmbceheafjadhaaGreat
open Go.RowKit Go.Maps
theorem not_str {w : World} {g : Nat} {t : TypeId} {c : Array Value} (h : Blk w g t c) (ht : t ≠ 9) : ∀ g' ∈ [g], ∀ cs fr, w.heap[g']? ≠ some (Obj.cells cs 9 fr) := by
  intro g' hg cs fr he
  simp at hg; subst hg
  unfold Blk at h
  rw [h] at he
  injection he with he
  injection he with _ he
  exact ht he
theorem MpU.ne_at {w : World} {b g : Nat} {D : DU} {t : TypeId} {cs : Array Value} (h : MpU w b D) (hg : Blk w g t cs) : b ∉ [g] := by
  have := h.ne_blk hg
  simpa using this
variable {w : World} {cb h n i out am tk : Nat} {seed tx : ByteArray} {l : Lk} {D : DU}
set_option maxRecDepth 100000 in
set_option maxHeartbeats 2000000 in
theorem ssigned_used (msg : ByteArray) (f : Value) (k : ClAt w cb seed h n i tx out l am tk D) (hh : h ≤ 4) (hi : 2 ^ h ≤ i) (hi2 : i ≤ 1000) :
    Calls Tryz.prog 153 #[.pointer (some ⟨cb, 0, none⟩), .string msg, f] w fun e w' => e = .returned (.tuple #[.agg (opP 0 ByteArray.empty 0 ByteArray.empty), .int .i64 14]) ∧ Below w.heap.size w w' := by
  obtain ⟨kb, ctr, pb, mb, hc, hk, _, _⟩ := k
  have c0 : ∀ o, (w.alloc o).cell? ⟨cb, 0, none⟩ = some (.pointer (some ⟨kb, 0, none⟩)) := fun o => (hc.alloc o).cell 0
  have HU := Lib.hid (ksign_used kb ctr seed msg h i (w.alloc (.cells (opP 0 ByteArray.empty 0 ByteArray.empty) 147)) hh hi hi2 (hk.bel ((Below.refl _ _).alloc (Nat.le_refl _) _)))
  have HO : Hid (Blk (w.alloc (.cells (opP 0 ByteArray.empty 0 ByteArray.empty) 147)) w.heap.size 147 (opP 0 ByteArray.empty 0 ByteArray.empty)) := Blk.new _ _ _
  have HB : Hid (Below w.heap.size w (w.alloc (.cells (opP 0 ByteArray.empty 0 ByteArray.empty) 147))) := (Below.refl _ _).alloc (Nat.le_refl _) _
  clear hc hk
  go_enter Tryz.func153, Tryz.ntmps153
  go_wp2_with fail
  refine HU.out.mono ?_
  rintro e w1 ⟨rfl, rfl⟩
  go_wp2_with (first | (refine wpList_store_part rfl 147 (.tmp 6) (.tmp 21) rfl w.heap.size 0 HO.out (opP 0 ByteArray.empty 0 ByteArray.empty) (opP 0 ByteArray.empty 0 ByteArray.empty) (by rfl) (by rfl) (opP_fits _ _ _ _ _ _ _ _) infoOp (opP_one _ _ _ _) (opP_over _ _ _ _ _ _ _ _) ?_; intro W3 hb3 hc3; have HO3 := Lib.hid hb3; have HC3 := Lib.hid hc3; clear hb3 hc3))
  exact bodyPost_ret (results_cell_row2 rfl _ HO3.out rfl Tryz.underlying147 infoOp) rfl ⟨rfl, HB.out.trans (HC3.out.below (by simp) (by simp))⟩
set_option maxRecDepth 100000 in
set_option maxHeartbeats 2000000 in
theorem ssigned_pay (msg : ByteArray) (am' tk' : Nat) (kb ctr pb mb : Nat) (hc : Blk w cb 252 (clC kb pb mb tx out l am tk)) (hk : KeyAt w kb ctr seed h i) (hp : ChainAt w pb seed n) (hm : MpU w mb D) (hh : h ≤ 4) (hi : i < 2 ^ h) (hs : seed.size ≤ 1000000) (hz : msg.size ≤ 900000) (ho : out < 256) (hx : tx.size ≤ 1000000) :
    Calls Tryz.prog 153 #[.pointer (some ⟨cb, 0, none⟩), .string msg, .func (Fn.func 155) #[.agg (padC cb am' tk' mb)] #[]] w fun e w' => e = .returned (.tuple #[.agg (opP 2 (nameB tx out) am' (signB seed h i msg)), .int .i64 0]) ∧ CIn w' cb kb ctr pb mb seed h n (i + 1) tx out l am' tk' D ∧ Ch [cb, ctr] w w' := by
  have c0 : ∀ o, (w.alloc o).cell? ⟨cb, 0, none⟩ = some (.pointer (some ⟨kb, 0, none⟩)) := fun o => (hc.alloc o).cell 0
  have HU := Lib.hid (ksign_ok kb ctr seed msg h i (w.alloc (.cells (opP 0 ByteArray.empty 0 ByteArray.empty) 147)) hh hi hs hz (hk.bel ((Below.refl _ _).alloc (Nat.le_refl _) _)))
  have HO : Hid (Blk (w.alloc (.cells (opP 0 ByteArray.empty 0 ByteArray.empty) 147)) w.heap.size 147 (opP 0 ByteArray.empty 0 ByteArray.empty)) := Blk.new _ _ _
  have HCA : Hid (Ch [cb, ctr] w (w.alloc (.cells (opP 0 ByteArray.empty 0 ByteArray.empty) 147))) := Ch.alloc _ _ _
  generalize signB seed h i msg = sig at *
  go_enter Tryz.func153, Tryz.ntmps153
  go_wp2_with fail
  refine HU.out.mono ?_
  rintro e w1 ⟨rfl, hk1, hc1⟩
  obtain ⟨vl, k1, k2, k3⟩ := id hk
  have ha := (Below.refl w.heap.size w).alloc (Nat.le_refl _) (.cells (opP 0 ByteArray.empty 0 ByteArray.empty) 147)
  have b1 : Blk w1 cb 252 (clC kb pb mb tx out l am tk) := Blk.ch (hc.bel ha) hc1 (by have := hc.ne_ k2 (by decide); simpa using this)
  have o1 : Blk w1 w.heap.size 147 (opP 0 ByteArray.empty 0 ByteArray.empty) := Blk.ch HO.out hc1 (by have := k2.lt; simp; omega)
  have p1 : ChainAt w1 pb seed n := (hp.bel ha).ch hc1 (k2.bel ha) (by decide) (by decide)
  have m1 : MpU w1 mb D := (hm.ch (Ch.of_below ha []) (by simp)).ch hc1 ((hm.ch (Ch.of_below ha []) (by simp)).ne_at (k2.bel ha))
  have hne : w.heap.size ≠ cb := by have := hc.lt; omega
  have HC1 : Hid (Ch [cb, ctr] w w1) := HCA.out.trans (hc1.mono (by simp))
  have B1 := Lib.hid b1
  have O1 := Lib.hid o1
  have P1 := Lib.hid p1
  have M1 := Lib.hid m1
  have K1 := Lib.hid hk1
  have hlb : cb < w.heap.size := hc.lt
  clear b1 o1 p1 m1 hk1 hc1 hc hk hp hm k1 k2 k3 ha c0
  go_wp2_with fail
  refine (paidlay_any kb pb mb am' tk' mb sig B1.out ho hx).mono ?_
  rintro e w2 ⟨rfl, hb2, hc2⟩
  have HC2 : Hid (Ch [cb, ctr] w w2) := HC1.out.trans (hc2.mono (by simp))
  obtain ⟨_, q1, q2, _⟩ := id K1.out
  have K2 : Hid (KeyAt w2 kb ctr seed h (i + 1)) := K1.out.ch hc2 (by have := q1.ne_ B1.out (by decide); simpa using this) (by have := q2.ne_ B1.out (by decide); simpa using this) (not_str B1.out (by decide))
  have P2 : Hid (ChainAt w2 pb seed n) := P1.out.ch hc2 B1.out (by decide) (by decide)
  have M2 : Hid (MpU w2 mb D) := M1.out.ch hc2 (M1.out.ne_at B1.out)
  have O2 : Hid (Blk w2 w.heap.size 147 (opP 0 ByteArray.empty 0 ByteArray.empty)) := Blk.ch O1.out hc2 (by simpa using hne)
  have B2 := Lib.hid hb2
  clear hb2 hc2 q1 q2
  go_wp2_with (first | (refine wpList_store_part rfl 147 (.tmp 6) (.tmp 25) rfl w.heap.size 0 O2.out (opP 2 (nameB tx out) am' sig) (opP 2 (nameB tx out) am' sig) (by rfl) (by rfl) (opP_fits _ _ _ _ _ _ _ _) infoOp (opP_one _ _ _ _) (opP_over _ _ _ _ _ _ _ _) ?_; intro W3 hb3 hc3; have HO3 := Lib.hid hb3; have HC3 := Lib.hid hc3; clear hb3 hc3))
  obtain ⟨_, q1, q2, _⟩ := id K2.out
  refine bodyPost_ret (results_cell_row2 rfl _ HO3.out rfl Tryz.underlying147 infoOp) rfl ⟨rfl, ⟨Blk.ch B2.out HC3.out (by simpa using hne.symm), K2.out.ch HC3.out (by have := q1.ne_ O2.out (by decide); simpa using this) (by have := q2.ne_ O2.out (by decide); simpa using this) (not_str O2.out (by decide)), P2.out.ch HC3.out O2.out (by decide) (by decide), M2.out.ch HC3.out (M2.out.ne_at O2.out)⟩, ((HC2.out.mono (S' := [cb, ctr, w.heap.size]) (by simp <;> omega)).trans (HC3.out.mono (by simp))).mono (by simp <;> omega)⟩
end Go.Proofs.YtmbceheafjadhaaGreat
namespace Go.Proofs.YtmbceheafjadhaaGreat
open Go.RowKit Go.Maps
def zRel : Array Value := #[.int .u64 0, .int .i64 0, .map none]
theorem relC_over (am tk mb : Nat) : over zRel 0 (relC am tk mb).toList = relC am tk mb := (over_full (relC am tk mb).toList zRel rfl).trans (Array.toArray_toList ..)
variable {w : World} {cb h n i out am tk : Nat} {seed tx : ByteArray} {l : Lk} {D : DU}
set_option maxRecDepth 100000 in
set_option maxHeartbeats 2000000 in
theorem spay_zero (k : ClAt w cb seed h n i tx out l am tk D) (h1 : am < 18446744073709551616) :
    Calls Tryz.prog 70 #[.pointer (some ⟨cb, 0, none⟩), .int .u64 0] w fun e w' => e = .returned (.tuple #[.agg (opP 0 ByteArray.empty 0 ByteArray.empty), .int .i64 11]) ∧ Below w.heap.size w w' := by
  obtain ⟨kb, ctr, pb, mb, hc, hk, hp, hm⟩ := k
  have HO : Hid (∀ o, Blk ((w.alloc (.cells (opP 0 ByteArray.empty 0 ByteArray.empty) 147)).alloc o) w.heap.size 147 (opP 0 ByteArray.empty 0 ByteArray.empty)) := fun o => (Blk.new _ _ _).alloc o
  have HC := Lib.hid hc
  have hlt := hc.lt
  have hne : ¬ cb = w.heap.size + 1 := by omega
  have HA := fun W => Lib.hid (add_any am 0 W (by omega) (by omega) (by omega) (by omega))
  clear hc hk hp hm
  go_enter Tryz.func70, Tryz.ntmps70
  go_wp2_with (first
    | (refine wpList_load_blk rfl 250 (.tmp 11) rfl cb 23 3 (HC.out.alloc _) (relC am tk mb) (by rfl) (by simp [clC, relC]) Tryz.underlying250 infoRel (by simp [clC]) ?_)
    | (refine wpList_store_part rfl 250 (.tmp 6) (.tmp 12) rfl (w.heap.size + 1) 0 (cs := zRel) (Blk.newAt (by simp)) (relC am tk mb) (relC am tk mb) (by rfl) (by rfl) (Nat.le_refl 3) infoRel (relC_one _ _ _) (relC_over _ _ _) ?_; intro W1 hb1 hc1; have HR1 := Lib.hid hb1; have HC1 := Lib.hid hc1; have r0 : W1.cell? ⟨w.heap.size + 1, 0, none⟩ = some (.int .u64 am) := hb1.cell 0; have f0 : W1.frozen? ⟨w.heap.size + 1, 0, none⟩ = false := hb1.frozen 0; have c22 : W1.cell? ⟨cb, 22, none⟩ = some (.bool true) := (Blk.ch ((HC.out.alloc _).alloc _) hc1 (by simp; omega)).cell 22; have HO1 : Hid (Blk W1 w.heap.size 147 (opP 0 ByteArray.empty 0 ByteArray.empty)) := Blk.ch (HO.out _) hc1 (by simp); have HB1 : Hid (Below w.heap.size w W1) := (((Below.refl w.heap.size w).alloc (Nat.le_refl _) _).alloc (by simp) _).trans (hc1.below (by simp; omega) (by simp)); clear hb1 hc1))
  refine (HA _).out.mono ?_
  rintro e w2 ⟨rfl, rfl⟩
  go_wp2_with (first
    | (refine wpList_store_part rfl 147 (.tmp 4) (.tmp 32) rfl w.heap.size 0 (HO1.out.far (by simp) _) (opP 0 ByteArray.empty 0 ByteArray.empty) (opP 0 ByteArray.empty 0 ByteArray.empty) (by rfl) (by rfl) (opP_fits _ _ _ _ _ _ _ _) infoOp (opP_one _ _ _ _) (opP_over _ _ _ _ _ _ _ _) ?_; intro W3 hb3 hc3; have HO3 := Lib.hid hb3; have HC3 := Lib.hid hc3; clear hb3 hc3))
  exact bodyPost_ret (results_cell_row2 rfl _ HO3.out rfl Tryz.underlying147 infoOp) rfl ⟨rfl, (HB1.out.setCell (by simp) _).trans (HC3.out.below (by have := HB1.out.size; simp; omega) (by simp))⟩
end Go.Proofs.YtmbceheafjadhaaGreat
namespace Go.Proofs.YtmbceheafjadhaaGreat
open Go.RowKit Go.Maps
theorem relC_set (am tk mb x : Nat) : (relC am tk mb).setIfInBounds 0 (.int .u64 (x : Nat)) = relC x tk mb := rfl
variable {w : World} {cb h n i out am tk : Nat} {seed tx : ByteArray} {l : Lk} {D : DU}
set_option maxRecDepth 100000 in
set_option maxHeartbeats 2000000 in
theorem spay_full (x : Nat) (k : ClAt w cb seed h n i tx out l am tk D) (hl : l.ok) (h1 : am < 18446744073709551616) (h2 : tk ≤ 1000000) (hz : Maps.size D ≤ 1000) (hx : 0 < x) (hx6 : am + x < 18446744073709551616) (hf : roomE (am + x) tk l.unit l.am D = 9) :
    Calls Tryz.prog 70 #[.pointer (some ⟨cb, 0, none⟩), .int .u64 x] w fun e w' => e = .returned (.tuple #[.agg (opP 0 ByteArray.empty 0 ByteArray.empty), .int .i64 9]) ∧ Below w.heap.size w w' := by
  obtain ⟨kb, ctr, pb, mb, hc, hk, hp, hm⟩ := id k
  have HK := Lib.hid k
  have HM := Lib.hid hm
  have HL := Lib.hid hl
  have hx0 : ((x : Int) == 0) = false := by simp; omega
  have HO : Hid (∀ o, Blk ((w.alloc (.cells (opP 0 ByteArray.empty 0 ByteArray.empty) 147)).alloc o) w.heap.size 147 (opP 0 ByteArray.empty 0 ByteArray.empty)) := fun o => (Blk.new _ _ _).alloc o
  have HC := Lib.hid hc
  have hlt := hc.lt
  have hne : ¬ cb = w.heap.size + 1 := by omega
  have e1 : plusV (am : Int) x = ((am + x : Nat) : Int) := by rw [plusV, if_pos (by omega)]; omega
  have e2 : plusE (am : Int) x = 0 := by rw [plusE, if_pos (by omega)]
  have HA := fun W => Lib.hid (add_any am x W (by omega) (by omega) (by omega) (by omega))
  rw [e1, e2] at HA
  clear hc hk hp hm k hl e1 e2
  go_enter Tryz.func70, Tryz.ntmps70
  go_wp2_with (first
    | (refine wpList_load_blk rfl 250 (.tmp 11) rfl cb 23 3 (HC.out.alloc _) (relC am tk mb) (by rfl) (by simp [clC, relC]) Tryz.underlying250 infoRel (by simp [clC]) ?_)
    | (refine wpList_store_part rfl 250 (.tmp 6) (.tmp 12) rfl (w.heap.size + 1) 0 (cs := zRel) (Blk.newAt (by simp)) (relC am tk mb) (relC am tk mb) (by rfl) (by rfl) (Nat.le_refl 3) infoRel (relC_one _ _ _) (relC_over _ _ _) ?_; intro W1 hb1 hc1; have HR1 := Lib.hid hb1; have HC1 := Lib.hid hc1; have r0 : W1.cell? ⟨w.heap.size + 1, 0, none⟩ = some (.int .u64 am) := hb1.cell 0; have r1 : W1.cell? ⟨w.heap.size + 1, 1, none⟩ = some (.int .i64 tk) := hb1.cell 1; have r2 : W1.cell? ⟨w.heap.size + 1, 2, none⟩ = some (.map (some mb)) := hb1.cell 2; have f0 : W1.frozen? ⟨w.heap.size + 1, 0, none⟩ = false := hb1.frozen 0; have c22 : W1.cell? ⟨cb, 22, none⟩ = some (.bool true) := (Blk.ch ((HC.out.alloc _).alloc _) hc1 (by simp; omega)).cell 22; have HO1 : Hid (Blk W1 w.heap.size 147 (opP 0 ByteArray.empty 0 ByteArray.empty)) := Blk.ch (HO.out _) hc1 (by simp); have HB1 : Hid (Below w.heap.size w W1) := (((Below.refl w.heap.size w).alloc (Nat.le_refl _) _).alloc (by simp) _).trans (hc1.below (by simp; omega) (by simp)); clear hb1 hc1))
  refine (HA _).out.mono ?_
  rintro e w2 ⟨rfl, rfl⟩
  have HR2 : Hid (Blk (w2.setCell ⟨w.heap.size + 1, 0, none⟩ (.int .u64 ((am + x : Nat) : Int))) (w.heap.size + 1) 250 (relC (am + x) tk mb)) := by have := HR1.out.set_ 0 (.int .u64 ((am + x : Nat) : Int)); rwa [relC_set] at this
  have HB2 : Hid (Below w.heap.size w (w2.setCell ⟨w.heap.size + 1, 0, none⟩ (.int .u64 ((am + x : Nat) : Int)))) := HB1.out.setCell (by simp) _
  have HO2 : Hid (Blk (w2.setCell ⟨w.heap.size + 1, 0, none⟩ (.int .u64 ((am + x : Nat) : Int))) w.heap.size 147 (opP 0 ByteArray.empty 0 ByteArray.empty)) := HO1.out.far (by simp) _
  have HRM := Lib.hid (sroom_any (w := w2.setCell ⟨w.heap.size + 1, 0, none⟩ (.int .u64 ((am + x : Nat) : Int))) (am + x) tk mb D (HK.out.bel HB2.out) HL.out hx6 h2 (HM.out.ch (Ch.of_below HB2.out []) (by simp)) hz)
  rw [hf] at HRM
  go_wp2_with fail
  refine HRM.out.mono ?_
  rintro e w3 ⟨rfl, hb3⟩
  have HO3 := Lib.hid (HO2.out.bel hb3)
  have HB3 := Lib.hid (HB2.out.trans (hb3.mono HB2.out.size))
  clear hb3
  go_wp2_with (first
    | (refine wpList_store_part rfl 147 (.tmp 4) (.tmp 42) rfl w.heap.size 0 HO3.out (opP 0 ByteArray.empty 0 ByteArray.empty) (opP 0 ByteArray.empty 0 ByteArray.empty) (by rfl) (by rfl) (opP_fits _ _ _ _ _ _ _ _) infoOp (opP_one _ _ _ _) (opP_over _ _ _ _ _ _ _ _) ?_; intro W4 hb4 hc4; have HO4 := Lib.hid hb4; have HC4 := Lib.hid hc4; clear hb4 hc4))
  exact bodyPost_ret (results_cell_row2 rfl _ HO4.out rfl Tryz.underlying147 infoOp) rfl ⟨rfl, HB3.out.trans (HC4.out.below HB3.out.size (by simp))⟩
end Go.Proofs.YtmbceheafjadhaaGreat
