/- law11's Locked. Facts of law11's and law17's fixed calls, reckoned by the kernel. No program. (Printed by lit17.py.) channel.Same of a state and of it with more locked. law17's fixed calls: the states and their answers, in plain words. law17's fixed. -/
import Derived.Outline
import Derived.Deep.RegionHeld3
import Derived.Deep.DeepCutAuto
import Derived.Deep.CutBlock
import Derived.Test.YtpbcfeghfcodcaaGreatMgChC
import Derived.Test.YtpbcfeghfcodcaaGreatMgCtE
import Derived.Test.YtpbcfeghfcodcaaGreatMgNote
import Derived.Test.YtpbcfeghfcodcaaGreatMgSm
import Derived.Test.YtpbcfeghfcodcaaGreatMgUt
set_option linter.unusedVariables false
set_option linter.unusedSimpArgs false
namespace Go.Proofs.YtpbcfeghfcodcaaGreat
open Go.RowKit Go.Maps Go.Sort
def wTok : ByteArray := ⟨#[116, 111, 107, 101, 110, 115]⟩
def lkoL (cl gt : ByteArray) (am ex : Nat) : Ou := ⟨2, am, cl, gt, (ex : Int), tokB wTok 5 0, 3, 5, ByteArray.empty⟩
def lkoM (cl gt : ByteArray) (mo ex : Nat) (of_ : ByteArray) : Ou := ⟨3, mo, cl, gt, (ex : Int), ByteArray.empty, 0, 0, of_⟩
def lkoX (cl gt : ByteArray) (am mo ex : Nat) : ByteArray := firstB [lkoL cl gt am ex, lkoM cl gt mo ex ByteArray.empty]
theorem lkoX_of (cl gt : ByteArray) (am mo ex : Nat) (of_ : ByteArray) : firstB [lkoL cl gt am ex, lkoM cl gt mo ex of_] = lkoX cl gt am mo ex := rfl
def lkoT (cl gt : ByteArray) (am mo ex : Nat) : List En := utN (lkoX cl gt am mo ex) [lkoL cl gt am ex, lkoM cl gt mo ex (nameO (lkoX cl gt am mo ex) 0)]
structure LkOk (cl gt : ByteArray) (am mo ex : Nat) : Prop where
  cl : cl.size = 16
  gt : gt.size = 16
  am0 : 0 < am
  am : am < 18446744073709551616
  mo0 : 0 < mo
  mo : mo < 18446744073709551616
  ex0 : 1 ≤ ex
  ex : ex ≤ 4294967295
theorem lk_fits {cl gt : ByteArray} {am mo ex : Nat} (h : LkOk cl gt am mo ex) (of_ : ByteArray) (ho : of_.size = 16) : newU [lkoL cl gt am ex, lkoM cl gt mo ex of_] = true := by
  have ht := tokB_size wTok 5 0
  have a1 := h.am0
  have a2 := h.mo0
  have a3 := h.ex0
  have a4 := h.ex
  have z0 : ByteArray.empty.size = 0 := rfl
  have e1 : fitsB (lkoL cl gt am ex) = true := by
    simp [fitsB, lkoL, fits2B, h.cl, h.gt, ht, z0]
    exact ⟨⟨decide_eq_true a1, decide_eq_true (by omega)⟩, decide_eq_true (by omega)⟩
  have e2 : fitsB (lkoM cl gt mo ex of_) = true := by
    simp [fitsB, lkoM, fits3B, h.cl, h.gt, ho, z0]
    exact ⟨⟨decide_eq_true a2, decide_eq_true (by omega)⟩, decide_eq_true (by omega)⟩
  simp [newU, e1, e2]
theorem lkx_size (cl gt : ByteArray) (am mo ex : Nat) : (lkoX cl gt am mo ex).size = 16 := firstB_size _
def hash16 : ByteArray := ⟨#[48, 49, 50, 51, 52, 53, 54, 55, 56, 57, 97, 98, 99, 100, 101, 102]⟩
theorem hash_any (w : World) : Calls Tryz.prog 51 #[] w fun e w' => e = .returned (.string hash16) ∧ w = w' := by
  go_enter Tryz.func51, Tryz.ntmps51
  go_wp2
  go_ret
  exact ⟨rfl, rfl⟩
def noOu : Array Value := zOu.cs
/-- two outputs in a block -/
theorem sl_two {w : World} {g B : Nat} {cur : Array Value} {x y : Ou} (hb : Blk w g 26 cur) (hB : g < B) (hc : cur.toList.take 18 = x.cl ++ y.cl) : Sl w B 9 Ou.cl (some ⟨g, 0, none⟩) [x, y] := fun _ => ⟨g, 0, rfl, hB, fun i z hz j u hu => by
  have hj : j < 9 := by have := (List.getElem?_eq_some_iff.1 hu).1; exact this
  have key : ∀ q v, q < 18 → (x.cl ++ y.cl)[q]? = some v → w.cell? ⟨g, q, none⟩ = some v := fun q v hq hv => by
    rw [hb.cell, ← Array.getElem?_toList, ← hv, ← hc, List.getElem?_take, if_pos hq]
  match i, hz with
  | 0, hz =>
    injection hz with hz
    subst hz
    have := key j u (by omega) (by rw [List.getElem?_append_left (by exact hj)]; exact hu)
    simpa using this
  | 1, hz =>
    injection hz with hz
    subst hz
    have := key (9 + j) u (by omega) (by rw [List.getElem?_append_right (by show 9 ≤ 9 + j; omega)]; show y.cl[9 + j - 9]? = _; rw [Nat.add_sub_cancel_left]; exact hu)
    simpa using this
  | i + 2, hz => simp at hz⟩
theorem two_set {cur : Array Value} {cl gt : ByteArray} {am mo ex : Nat} {of_ nm : ByteArray} (h : cur.toList.take 18 = (lkoL cl gt am ex).cl ++ (lkoM cl gt mo ex of_).cl) : (cur.setIfInBounds 17 (.string nm)).toList.take 18 = (lkoL cl gt am ex).cl ++ (lkoM cl gt mo ex nm).cl := by
  rw [Array.toList_setIfInBounds, List.take_set, h]
  rfl
theorem own_two {w : World} {base c : Nat} {A : Option Addr} {e : TypeId} {xs : List Value} (h : w.ownsRow base e 9 (.slice A 2 c) 2 xs) : ∃ g cur, A = some ⟨g, 0, none⟩ ∧ base ≤ g ∧ Blk w g e cur ∧ cur.toList.take 18 = xs ∧ 18 ≤ cur.size := by
  rcases h.2 with ⟨h0, h1⟩ | ⟨g, cap, cur, h0, hb, hg, h1, h2, h3, h4⟩
  · exact absurd h1 (by decide)
  · injection h0 with h0 _ _
    exact ⟨g, cur, h0, hb, hg, h4, by rw [h3]; omega⟩
theorem all_n (n sb b : Nat) (T : List En) (w : World) (hS : SetAt w sb b T) (hn : T.length = n) (h1 : n ≤ 1000) (h0 : 0 < n) :
    Calls Tryz.prog 53 #[.pointer (some ⟨sb, 0, none⟩)] w fun e w' => ∃ A c, e = .returned (.slice A n c) ∧ Sl w' w'.heap.size 11 En.cl A T ∧ Below w.heap.size w w' := by
  subst hn
  refine (all_any sb b T w hS h1 h0).mono ?_
  rintro e w' ⟨A, c, rfl, ho, hb⟩
  exact ⟨A, c, rfl, Sl.of_own (fun _ => rfl) ho, hb⟩
set_option maxRecDepth 100000 in
set_option maxHeartbeats 2000000 in
theorem locked_any (cl gt : ByteArray) (am mo ex : Nat) (w : World) (h : LkOk cl gt am mo ex) :
    Calls Tryz.prog 25 #[.string cl, .string gt, .int .u64 (am : Nat), .int .u64 (mo : Nat), .int .i64 (ex : Int)] w fun e w' => ∃ sb b A c, e = .returned (.tuple #[.pointer (some ⟨sb, 0, none⟩), .slice A 2 c]) ∧ w.heap.size ≤ sb ∧ w.heap.size ≤ b ∧ SetAt w' sb b (lkoT cl gt am mo ex) ∧ Sl w' w'.heap.size 11 En.cl A (lkoT cl gt am mo ex) ∧ Below w.heap.size w w' := by
  obtain ⟨i0, hi, hz0, hz1, hz2⟩ := info_parts Tryz.infoOut9
  have Hz0 := Lib.hid hz0
  have HPN := fun W => Lib.hid (pnew_any wTok 5 W (by omega) (by omega) (by decide))
  have HLK := Lib.hid h
  have d1 : decide ((0 : Int) < (mo : Int)) = true := decide_eq_true (by have := h.mo0; omega)
  have d1' : decide (0 < mo) = true := decide_eq_true h.mo0
  have hts := tokB_size wTok 5 0
  obtain ⟨tk, htk⟩ : ∃ tk, tk = tokB wTok 5 0 := ⟨_, rfl⟩
  have HTK := Lib.hid htk
  clear hz0 h hts htk
  go_enter Tryz.func25, Tryz.ntmps25
  go_wp2_with fail
  refine (HPN _).out.mono ?_
  rintro e w1 ⟨cb, rfl, hcb, hch, hb⟩
  have HB1 := Lib.hid hb
  have HCH := Lib.hid hch
  clear hb hch HPN
  go_wp2_with fail
  refine (panchor_any cb 5 wTok _ HCH.out).mono ?_
  rintro e w2 ⟨rfl, rfl⟩
  rw [← HTK.out]
  go_wp2_with fail
  refine (hash_any _).mono ?_
  rintro e w2 ⟨rfl, rfl⟩
  go_wp2_with (at_builtin; go_must (refine wpList_append_own _ rfl (.tmp 39) (.tmp 46) _ rfl w1.heap.size 26 i0 _ 9 104 Tryz.underlying52 hi Hz0.out hz1 hz2 rfl (by decide) _ 1 (lkoL cl gt am ex).cl rfl ((own_lit (base := w1.heap.size) (n := 1) (k := 9) (cs := (lkoL cl gt am ex).cs) (by rw [lkoL, ← HTK.out]; exact Blk.new w1 _ _) (Nat.le_refl _) rfl (by decide)).alloc _) ⟨w1.heap.size + 1, 0, none⟩ 1 1 (lkoM cl gt mo ex hash16).cl rfl rfl (World.news_of_block (cs := (lkoM cl gt mo ex hash16).cs) (Blk.newAt (by simp))) (one_all (oucs_one _)) (by decide) (by decide) (by simp; omega) ?_); intro v' w3 hown3 hg3 hnil3)
  obtain ⟨A3, c3, rfl⟩ := own_form hown3
  obtain ⟨g, cur, rfl, hgb, hblk, hcur, hsz⟩ := own_two hown3
  have HG := Lib.hid hblk
  have HCU := Lib.hid hcur
  have hz1 := HB1.out.size
  have HB3 : Hid (Below w.heap.size w w3) := Lib.hid ((((HB1.out.alloc hz1 _).alloc (by simp; omega) _).grown hg3 (by simp; omega) (fun j hj => by have : w1.heap.size = j := Option.some.inj hj; omega)))
  have HGB : Hid (w.heap.size ≤ g) := Lib.hid (by omega)
  have hl2 : (18 : Nat) ≤ cur.size := hsz
  clear hown3 hg3 hnil3 hblk hcur hgb hsz HB1 HCH hi hz1 hz2
  have hams : ∀ of_, ∀ o ∈ [lkoL cl gt am ex, lkoM cl gt mo ex of_], o.am < 18446744073709551616 := by
    intro of_ o ho
    simp only [List.mem_cons, List.not_mem_nil, or_false] at ho
    rcases ho with rfl | rfl
    · exact HLK.out.am
    · exact HLK.out.mo
  have HAM := Lib.hid hams
  clear hams
  have HN1 := Lib.hid (unew_ok (some ⟨g, 0, none⟩) [lkoL cl gt am ex, lkoM cl gt mo ex hash16] c3 w3 (sl_two HG.out HG.out.lt HCU.out) (lk_fits HLK.out _ rfl) (HAM.out _))
  rw [lkoX_of] at HN1
  have hl0 : (utN (lkoX cl gt am mo ex) [lkoL cl gt am ex, lkoM cl gt mo ex hash16]).length = 2 := utN_len _ _
  have HT0 : Hid (∀ x, (utN (lkoX cl gt am mo ex) [lkoL cl gt am ex, lkoM cl gt mo ex hash16])[0]? = some x → x.tx = lkoX cl gt am mo ex ∧ x.out = 0) := Lib.hid (fun x hx => by injection hx with hx; subst hx; exact ⟨rfl, rfl⟩)
  generalize utN (lkoX cl gt am mo ex) [lkoL cl gt am ex, lkoM cl gt mo ex hash16] = T0 at HN1 hl0 HT0
  have HL0 := Lib.hid hl0
  clear hl0
  refine HN1.out.mono ?_
  rintro e w4 ⟨sb, b, rfl, hsb, hbb, hset, hb⟩
  have HS4 := Lib.hid hset
  have HB4 := Lib.hid (HB3.out.trans (hb.mono HB3.out.size))
  have HG4 := Lib.hid (HG.out.bel hb)
  clear hset hb HN1 hsb hbb
  go_wp2_with fail
  refine (all_n 2 sb b T0 w4 HS4.out HL0.out (by omega) (by omega)).mono ?_
  rintro e w5 ⟨A5, c5, rfl, _, hb⟩
  have HS5 := Lib.hid (HS4.out.bel hb)
  have HB5 := Lib.hid (HB4.out.trans (hb.mono HB4.out.size))
  have HG5 := Lib.hid (HG4.out.bel hb)
  clear hb HS4 HB4 HG4
  go_wp2_with fail
  refine (all_n 2 sb b T0 w5 HS5.out HL0.out (by omega) (by omega)).mono ?_
  rintro e w6 ⟨A6, c6, rfl, hsl, hb⟩
  have HB6 := Lib.hid (HB5.out.trans (hb.mono HB5.out.size))
  have HG6 := Lib.hid (HG5.out.bel hb)
  clear hb HS5 HB5 HG5
  have hlt0 : 0 < T0.length := by rw [HL0.out]; omega
  obtain ⟨ab, off, rfl, _, hcl⟩ := hsl.at_ hlt0
  obtain ⟨h0a, h0b⟩ := HT0.out _ (List.getElem?_eq_getElem hlt0)
  have p0 : w6.cell? ⟨ab, off, none⟩ = some (.string (lkoX cl gt am mo ex)) := by have := hcl 0 (.string T0[0].tx) rfl; rw [h0a] at this; simpa using this
  have p1 : w6.cell? ⟨ab, off + 1, none⟩ = some (.int .i64 0) := by have := hcl 1 (.int .i64 T0[0].out) rfl; rw [h0b] at this; simpa using this
  clear hsl hcl h0a h0b HT0 HL0
  have HNM := fun W => Lib.hid (cname_gen (lkoX cl gt am mo ex) 0 W (by rw [lkx_size]; omega))
  go_wp2_with fail
  refine (HNM _).out.mono ?_
  rintro e w7 ⟨rfl, hb⟩
  have HB7 := Lib.hid (HB6.out.trans (hb.mono HB6.out.size))
  have HG7 := Lib.hid (HG6.out.bel hb)
  clear hb HNM p0 p1 HB6 HG6 HG HB3
  have hcs : cur[17]? = some (.string hash16) := by
    have := congrArg (fun l => l[17]?) HCU.out
    simp only [List.getElem?_take, Array.getElem?_toList] at this
    rw [if_pos (by omega)] at this
    exact this
  have q17 : w7.cell? ⟨g, 17, none⟩ = some (.string hash16) := (HG7.out.cell 17).trans hcs
  have z17 : w7.frozen? ⟨g, 17, none⟩ = false := HG7.out.frozen 17
  go_wp2_with fail
  obtain ⟨w8, hw8⟩ : ∃ w8, w8 = w7.setCell ⟨g, 17, none⟩ (.string (nameO (lkoX cl gt am mo ex) 0)) := ⟨_, rfl⟩
  have HG8 : Hid (Blk w8 g 26 (cur.setIfInBounds 17 (.string (nameO (lkoX cl gt am mo ex) 0)))) := Lib.hid (by rw [hw8]; exact HG7.out.set_ 17 _)
  have HB8 : Hid (Below w.heap.size w w8) := Lib.hid (by rw [hw8]; exact HB7.out.setCell HGB.out _)
  rw [← hw8]
  clear hw8 q17 z17 hcs HB7 HG7
  have HC8 := Lib.hid (two_set (nm := nameO (lkoX cl gt am mo ex) 0) HCU.out)
  have HN2 := Lib.hid (unew_ok (some ⟨g, 0, none⟩) [lkoL cl gt am ex, lkoM cl gt mo ex (nameO (lkoX cl gt am mo ex) 0)] c3 w8 (sl_two HG8.out HG8.out.lt HC8.out) (lk_fits HLK.out _ (nameO_size _ _)) (HAM.out _))
  rw [lkoX_of] at HN2
  have HTT : Hid (lkoT cl gt am mo ex = utN (lkoX cl gt am mo ex) [lkoL cl gt am ex, lkoM cl gt mo ex (nameO (lkoX cl gt am mo ex) 0)]) := rfl
  have hl1 : (utN (lkoX cl gt am mo ex) [lkoL cl gt am ex, lkoM cl gt mo ex (nameO (lkoX cl gt am mo ex) 0)]).length = 2 := utN_len _ _
  generalize utN (lkoX cl gt am mo ex) [lkoL cl gt am ex, lkoM cl gt mo ex (nameO (lkoX cl gt am mo ex) 0)] = T1 at HN2 HTT hl1
  have HL1 := Lib.hid hl1
  clear hl1
  refine HN2.out.mono ?_
  rintro e w9 ⟨sb2, b2, rfl, hsb, hbb, hset, hb⟩
  have HS9 := Lib.hid hset
  have HZ2 : Hid (w.heap.size ≤ sb2 ∧ w.heap.size ≤ b2) := Lib.hid ⟨Nat.le_trans HB8.out.size hsb, Nat.le_trans HB8.out.size hbb⟩
  have HB9 := Lib.hid (HB8.out.trans (hb.mono HB8.out.size))
  clear hset hb HN2 hsb hbb HG8 HB8 HC8
  go_wp2_with fail
  refine (all_n 2 sb2 b2 T1 w9 HS9.out HL1.out (by omega) (by omega)).mono ?_
  rintro e w10 ⟨A10, c10, rfl, _, hb⟩
  have HS10 := Lib.hid (HS9.out.bel hb)
  have HB10 := Lib.hid (HB9.out.trans (hb.mono HB9.out.size))
  clear hb HS9 HB9
  go_wp2_with fail
  refine (all_n 2 sb2 b2 T1 w10 HS10.out HL1.out (by omega) (by omega)).mono ?_
  rintro e w11 ⟨A11, c11, rfl, hsl, hb⟩
  have HSL := Lib.hid hsl
  have HS11 := Lib.hid (HS10.out.bel hb)
  have HB11 := Lib.hid (HB10.out.trans (hb.mono HB10.out.size))
  clear hb HS10 HB10 hsl
  go_wp2_with fail
  go_ret2
  exact ⟨sb2, b2, A11, c11, rfl, HZ2.out.1, HZ2.out.2, by rw [HTT.out]; exact HS11.out, by rw [HTT.out]; exact HSL.out, HB11.out⟩
end Go.Proofs.YtpbcfeghfcodcaaGreat
namespace Go.Proofs.YtpbcfeghfcodcaaGreat
open Go.RowKit
def sdC : ByteArray := ⟨#[99, 108, 105, 101, 110, 116]⟩
def rC : ByteArray := rootB sdC 1
def txC17 : ByteArray := lkoX rC rC 100 20 9
def chC : ByteArray := nameO txC17 0
def mC (n : Nat) : ByteArray := aboutB rC 0 (vouchB chC n)
theorem rC_size : rC.size = 16 := rootB_size _ _
theorem chC_size : chC.size = 16 := nameO_size _ _
/-! digits -/
def fLack (D : List Nat) : Nat → Nat
  | 0 => 0
  | j + 1 => fLack D j + (30 - D.getD j 0 / 16 - D.getD j 0 % 16)
def fDig (D : List Nat) (i : Nat) : Nat :=
  if i < 16 then (if i % 2 = 0 then D.getD (i / 2) 0 / 16 else D.getD (i / 2) 0 % 16) else if i = 16 then fLack D 8 / 16 else fLack D 8 % 16
theorem getD_l (l : List UInt8) (j : Nat) : (l.getD j 0).toNat = (l.map UInt8.toNat).getD j 0 := by
  rw [List.getD_eq_getElem?_getD, List.getD_eq_getElem?_getD, List.getElem?_map]
  cases l[j]? <;> rfl
theorem digC_l (msg : ByteArray) (j : Nat) : digC msg j = (byL (tagB wMessage [msg])).getD j 0 := getD_l _ _
theorem lack_l (msg : ByteArray) : ∀ j, lackN msg j = fLack (byL (tagB wMessage [msg])) j
  | 0 => rfl
  | j + 1 => by rw [lackN, fLack, lack_l msg j, digC_l]
theorem dig_l (msg : ByteArray) (i : Nat) : digN msg i = fDig (byL (tagB wMessage [msg])) i := by
  unfold digN fDig
  rw [digC_l, lack_l]
theorem from_two (seed m1 m2 : ByteArray) : fromB m2 (sigB seed m1) = tagB wPublic [catN (fun i => stepN i (15 - digN m2 i + digN m1 i) (secB seed i)) 18] := by
  have h : ∀ i, i < 18 → stepN i (15 - digN m2 i) ((sigB seed m1).extract (16 * i) (16 * (i + 1))) = stepN i (15 - digN m2 i + digN m1 i) (secB seed i) := fun i hi => by
    have e := catN_part 18 (fun i (_ : i < 18) => stepN_size i (tagB_size wSecret [seed, oneB i]) (digN m1 i)) i hi
    have e' : (sigB seed m1).extract (16 * i) (16 * (i + 1)) = stepN i (digN m1 i) (secB seed i) := e
    rw [e', ← stepN_add]
  rw [fromB, catN_congr 18 h]
theorem from_l (seed m1 m2 : ByteArray) : byL (fromB m2 (sigB seed m1)) = fTag (byL wPublic) [fCat (fun i => fSteps i (15 - fDig (byL (tagB wMessage [m2])) i + fDig (byL (tagB wMessage [m1])) i) (fSec (byL seed) i)) 18] := by
  rw [from_two, tag_eq]
  simp only [List.map_cons, List.map_nil]
  rw [cat_l _ (fun i => fSteps i (15 - fDig (byL (tagB wMessage [m2])) i + fDig (byL (tagB wMessage [m1])) i) (fSec (byL seed) i)) (fun i => by rw [steps_l, sec_l, dig_l, dig_l])]
/-- another text under a signature of one leaf of two -/
theorem ver_other (seed m1 m2 : ByteArray) : verB (rootB seed 1) m2 (signB seed 1 0 m1) = decide (topB 1 (nodeB (fromB (aboutB (rootB seed 1) 0 m2) (sigB (seedB seed 0) (aboutB (rootB seed 1) 0 m1))) (pubB (seedB seed 1))) = rootB seed 1) := by
  have hi : 0 < 2 ^ 1 := by decide
  have hz := signB_size seed hi m1
  have h0 : atB (signB seed 1 0 m1) 0 = 0 := by rw [signB, ba_append_assoc]; exact oneB_at 0 (by omega) _
  have hd : (signB seed 1 0 m1).size - 289 = 16 * 1 := by omega
  have hq : 16 * 1 / 16 = 1 := by omega
  have hx : (signB seed 1 0 m1).extract 1 289 = sigB (seedB seed 0) (aboutB (rootB seed 1) 0 m1) := by
    rw [signB]; exact ext_mid (oneB_size _) (by rw [sigB_size])
  have hpc : pieces (signB seed 1 0 m1) 289 1 = pathR 1 (leavesB seed (2 ^ 1)) 0 := by
    have := pieces_join (oneB 0 ++ sigB (seedB seed 0) (aboutB (rootB seed 1) 0 m1)) 289 (by rw [ByteArray.size_append, oneB_size, sigB_size]) 1 (pathR 1 (leavesB seed (2 ^ 1)) 0) ByteArray.empty (pathR_length _ _ _) (pathR_all 1 _ 0 (leavesB_length _ _) hi (leavesB_all _ _))
    rwa [ba_append_empty] at this
  unfold verB leafOk
  rw [h0, hd, hq, hx, hpc]
  have hs : (signB seed 1 0 m1).size = 305 := by rw [hz]
  rw [hs, decide_eq_true (rootB_size seed 1)]
  generalize fromB (aboutB (rootB seed 1) 0 m2) (sigB (seedB seed 0) (aboutB (rootB seed 1) 0 m1)) = F
  have hu : upR F 0 (pathR 1 (leavesB seed (2 ^ 1)) 0) = nodeB F (pubB (seedB seed 1)) := by
    have e : (leavesB seed (2 ^ 1)).getD 1 ByteArray.empty = pubB (seedB seed 1) := leavesB_get seed (by decide)
    rw [pathR, pathR, show mate 0 = 1 from rfl, e]
    rfl
  rw [hu]
  generalize decide (topB 1 (nodeB F (pubB (seedB seed 1))) = rootB seed 1) = b
  cases b <;> rfl
/-! the facts -/
theorem b_sd : byL sdC = [99, 108, 105, 101, 110, 116] := by decide +kernel
theorem b_s0 : byL (seedB sdC 0) = [157, 75, 129, 213, 13, 1, 200, 211, 110, 215, 60, 161, 76, 180, 203, 24] := by rw [leaf_l, b_sd]; decide +kernel
theorem b_s1 : byL (seedB sdC 1) = [76, 47, 7, 42, 26, 194, 198, 240, 97, 111, 190, 48, 68, 144, 223, 82] := by rw [leaf_l, b_sd]; decide +kernel
theorem b_p0 : byL (pubB (seedB sdC 0)) = [128, 51, 139, 84, 249, 76, 255, 213, 26, 9, 45, 72, 184, 38, 254, 207] := by rw [pub_l, b_s0]; decide +kernel
theorem b_p1 : byL (pubB (seedB sdC 1)) = [145, 22, 228, 184, 198, 165, 12, 41, 186, 152, 71, 190, 72, 162, 201, 225] := by rw [pub_l, b_s1]; decide +kernel
theorem b_r : byL rC = [143, 8, 33, 192, 8, 88, 89, 216, 70, 81, 41, 254, 41, 220, 15, 67] := by
  rw [show rC = tagB wRoot [oneB 1, tagB wNode [pubB (seedB sdC 0), pubB (seedB sdC 1)]] from rfl, tag_eq]
  simp only [List.map_cons, List.map_nil, tag_eq, b_p0, b_p1, one_l]
  decide +kernel
theorem b_tx : byL txC17 = [181, 28, 150, 16, 61, 56, 71, 237, 125, 157, 62, 175, 147, 115, 219, 25] := by
  rw [show txC17 = tagB wFirst [ByteArray.empty ++ (putB 100 ++ rC) ++ (putB 20 ++ rC)] from rfl, tag_eq]
  simp only [List.map_cons, List.map_nil, byL_append, b_r]
  decide +kernel
theorem b_ch : byL chC = [140, 167, 233, 215, 253, 156, 65, 142, 61, 44, 122, 177, 33, 39, 157, 230] := by
  rw [show chC = tagB wLock [txC17, strOfNums [0]] from rfl, tag_eq]
  simp only [List.map_cons, List.map_nil, b_tx]
  decide +kernel
theorem b_m (n : Nat) : byL (mC n) = byL rC ++ byL (oneB 0) ++ (byL ByteArray.empty ++ byL (strOfNums [86]) ++ (byL (strOfNums [0, 16]) ++ byL chC) ++ byL (putB n)) := by
  unfold mC aboutB vouchB blobB
  rw [chC_size]
  simp only [byL_append]
  rfl
theorem b_d0 : byL (tagB wMessage [mC 110]) = [235, 140, 116, 114, 179, 167, 23, 244, 56, 68, 137, 138, 64, 243, 68, 46] := by
  rw [tag_eq]
  simp only [List.map_cons, List.map_nil, b_m, b_r, b_ch]
  decide +kernel
theorem b_d1 : byL (tagB wMessage [mC 111]) = [185, 59, 230, 41, 237, 251, 49, 157, 133, 246, 95, 208, 243, 216, 27, 139] := by
  rw [tag_eq]
  simp only [List.map_cons, List.map_nil, b_m, b_r, b_ch]
  decide +kernel
theorem b_f : byL (fromB (mC 111) (sigB (seedB sdC 0) (mC 110))) = [69, 253, 126, 158, 80, 172, 170, 122, 24, 112, 133, 1, 82, 249, 80, 191] := by
  rw [from_l, b_d0, b_d1, b_s0]
  decide +kernel
theorem b_bad : byL (topB 1 (nodeB (fromB (mC 111) (sigB (seedB sdC 0) (mC 110))) (pubB (seedB sdC 1)))) = [30, 59, 212, 226, 98, 21, 126, 208, 252, 52, 60, 200, 22, 24, 133, 222] := by
  unfold topB nodeB
  rw [tag_eq]
  simp only [List.map_cons, List.map_nil, tag_eq, b_f, b_p1, one_l]
  decide +kernel
/-- a voucher of 111 is not signed by the signature of 110 -/
theorem ver_111 : verB rC (vouchB chC 111) (signB sdC 1 0 (vouchB chC 110)) = false := by
  rw [show verB rC (vouchB chC 111) (signB sdC 1 0 (vouchB chC 110)) = decide (topB 1 (nodeB (fromB (mC 111) (sigB (seedB sdC 0) (mC 110))) (pubB (seedB sdC 1))) = rC) from ver_other sdC _ _]
  refine decide_eq_false (fun h => ?_)
  have := congrArg byL h
  rw [b_bad, b_r] at this
  revert this
  decide
theorem ver_110 : verB rC (vouchB chC 110) (signB sdC 1 0 (vouchB chC 110)) = true := ver_sign sdC (by omega) (by omega) _

theorem b_st : byL (startB wTok) = [74, 167, 239, 107, 31, 206, 73, 142, 183, 178, 217, 27, 132, 213, 253, 50] := by
  unfold startB
  rw [tag_eq]
  decide +kernel
theorem b_nx (s : ByteArray) (k : Nat) : byL (itB s (k + 1)) = fTag (byL wPay) [byL (itB s k)] := by
  rw [itB, nxtB, tag_eq]; rfl
theorem b_it0 : byL (itB (startB wTok) 0) = [74, 167, 239, 107, 31, 206, 73, 142, 183, 178, 217, 27, 132, 213, 253, 50] := by exact b_st
theorem b_it1 : byL (itB (startB wTok) 1) = [229, 87, 92, 42, 93, 253, 35, 230, 131, 234, 29, 155, 64, 7, 172, 45] := by rw [b_nx, b_it0]; decide +kernel
theorem b_it2 : byL (itB (startB wTok) 2) = [243, 126, 242, 108, 183, 61, 154, 236, 121, 117, 68, 149, 137, 10, 151, 48] := by rw [b_nx, b_it1]; decide +kernel
theorem b_it3 : byL (itB (startB wTok) 3) = [121, 83, 71, 138, 13, 251, 120, 33, 40, 116, 172, 58, 92, 201, 0, 156] := by rw [b_nx, b_it2]; decide +kernel
theorem b_it4 : byL (itB (startB wTok) 4) = [59, 247, 232, 24, 243, 238, 141, 36, 7, 111, 229, 130, 255, 165, 220, 194] := by rw [b_nx, b_it3]; decide +kernel
theorem b_it5 : byL (itB (startB wTok) 5) = [94, 248, 87, 69, 78, 65, 226, 122, 226, 121, 65, 191, 26, 177, 103, 34] := by rw [b_nx, b_it4]; decide +kernel
theorem b_ci0 : byL (itB chC 0) = [140, 167, 233, 215, 253, 156, 65, 142, 61, 44, 122, 177, 33, 39, 157, 230] := by exact b_ch
theorem b_ci1 : byL (itB chC 1) = [131, 20, 190, 133, 84, 14, 11, 222, 54, 183, 123, 177, 46, 215, 23, 249] := by rw [b_nx, b_ci0]; decide +kernel
theorem b_ci2 : byL (itB chC 2) = [206, 23, 112, 201, 55, 213, 142, 78, 105, 228, 34, 57, 31, 219, 77, 192] := by rw [b_nx, b_ci1]; decide +kernel
theorem b_ci3 : byL (itB chC 3) = [56, 217, 69, 207, 30, 39, 31, 255, 43, 141, 147, 197, 134, 153, 141, 32] := by rw [b_nx, b_ci2]; decide +kernel
theorem b_ci4 : byL (itB chC 4) = [216, 229, 243, 224, 112, 145, 131, 40, 89, 71, 181, 68, 135, 116, 153, 194] := by rw [b_nx, b_ci3]; decide +kernel
theorem b_ci5 : byL (itB chC 5) = [35, 242, 100, 9, 36, 29, 125, 162, 175, 37, 42, 0, 115, 38, 5, 47] := by rw [b_nx, b_ci4]; decide +kernel
theorem ne_l {s t : ByteArray} {a b : List Nat} (hs : byL s = a) (ht : byL t = b) (h : a ≠ b) : s ≠ t := fun e => h (by rw [← hs, ← ht, e])
theorem itB_add (s : ByteArray) (a : Nat) : ∀ b, itB (itB s a) b = itB s (a + b)
  | 0 => rfl
  | b + 1 => by rw [itB, itB_add s a b]; rfl
theorem cnt_tok : cntGo (tokB wTok 5 0) (tokB wTok 5 2) 5 0 = (2, true) := by
  have e : ∀ i, itB (tokB wTok 5 2) i = itB (startB wTok) (3 + i) := fun i => itB_add _ 3 i
  have a : tokB wTok 5 0 = itB (startB wTok) 5 := rfl
  rw [cntGo, e, a, if_neg (ne_l b_it3 b_it5 (by decide)), cntGo, e, if_neg (ne_l b_it4 b_it5 (by decide)), cntGo, e, if_pos rfl]
theorem cnt_ch : (cntGo (tokB wTok 5 0) chC 5 0).2 = false := by
  have a : tokB wTok 5 0 = itB (startB wTok) 5 := rfl
  rw [a, cntGo, if_neg (ne_l b_ci0 b_it5 (by decide)), cntGo, if_neg (ne_l b_ci1 b_it5 (by decide)), cntGo, if_neg (ne_l b_ci2 b_it5 (by decide)), cntGo, if_neg (ne_l b_ci3 b_it5 (by decide)), cntGo, if_neg (ne_l b_ci4 b_it5 (by decide)), cntGo]
  exact decide_eq_false (ne_l b_ci5 b_it5 (by decide))
theorem cntN_tok : cntN (tokB wTok 5 0) (tokB wTok 5 2) 5 = 2 := by
  unfold cntN
  rw [if_pos (tokB_size _ _ _), cnt_tok]; rfl
theorem cntE_tok : cntE (tokB wTok 5 0) (tokB wTok 5 2) 5 = 0 := by
  unfold cntE
  rw [if_pos (tokB_size _ _ _), cnt_tok]; rfl
theorem cntE_ch : cntE (tokB wTok 5 0) chC 5 = 4 := by
  unfold cntE
  rw [if_pos chC_size, cnt_ch]; rfl
end Go.Proofs.YtpbcfeghfcodcaaGreat
namespace Go.Proofs.YtpbcfeghfcodcaaGreat
open Go.RowKit Go.Maps
set_option maxRecDepth 100000 in
set_option maxHeartbeats 1000000 in
theorem equal_en_ne (A A' : Option Addr) (n m c c' : Nat) (w : World) (h : n ≠ m) :
    Calls Tryz.prog 23 #[.slice A n c, .slice A' m c'] w fun e w' => e = .returned (.bool false) ∧ Below w.heap.size w w' := by
  have d : ((n : Int) != (m : Int)) = true := by simp [bne, beq_eq_false_iff_ne.2 (show (n : Int) ≠ m by omega)]
  clear h
  go_enter Tryz.func23, Tryz.ntmps23
  go_wp2_with fail
  go_ret
  exact ⟨rfl, Below.refl _ _⟩
theorem st_pft (s : St) (e : En) (A : Option Addr) (c : Nat) (B : Option Addr) (d : Nat) : ((s.addtop e).lists A c B d).cs.extract 12 (12 + 4) = (s.pf B d).cs := by rfl
set_option maxRecDepth 100000 in
set_option maxHeartbeats 2000000 in
theorem xsame_top (s : St) (e : En) (A : Option Addr) (c : Nat) (B : Option Addr) (d : Nat) (A' : Option Addr) (c' : Nat) (B' : Option Addr) (d' : Nat) (w : World) (h1 : (s.lists A c B d).mem w) (h2 : ((s.addtop e).lists A' c' B' d').mem w) (hl : s.tops.length ≤ 1000) (hl2 : s.wins.length ≤ 1000) :
    Calls Tryz.prog 8 #[.agg (s.lists A c B d).cs, .agg ((s.addtop e).lists A' c' B' d').cs] w fun e' w' => e' = .returned (.bool false) ∧ Below w.heap.size w w' := by
  have HM1 := Lib.hid h1
  have HM2 := Lib.hid h2
  have HX := Lib.hid (Blk.alloc (Blk.new w 35 (s.lists A c B d).cs) (.cells ((s.addtop e).lists A' c' B' d').cs 35))
  have HY : Hid (Blk ((w.alloc (.cells (s.lists A c B d).cs 35)).alloc (.cells ((s.addtop e).lists A' c' B' d').cs 35)) (w.heap.size + 1) 35 ((s.addtop e).lists A' c' B' d').cs) := Blk.newAt (by simp)
  have HB : Hid (Below w.heap.size w ((w.alloc (.cells (s.lists A c B d).cs 35)).alloc (.cells ((s.addtop e).lists A' c' B' d').cs 35))) := ((Below.refl _ _).alloc (Nat.le_refl _) _).alloc (by simp) _
  have HNS := fun W hW => Lib.hid (nsame_any (s.pf B d) B' d' W (h1.bel (w' := W) hW).wins (h2.bel (w' := W) hW).wins (by show s.wins.length ≤ 1000000; omega))
  have hne : s.tops.length ≠ (s.addtop e).tops.length := by show _ ≠ (s.tops ++ [e]).length; rw [List.length_append]; show _ ≠ s.tops.length + 1; omega
  have HEQ := fun W => Lib.hid (equal_en_ne A A' s.tops.length (s.addtop e).tops.length c c' W hne)
  clear hne
  clear h1 h2 hl hl2
  go_enter Tryz.func8, Tryz.ntmps8
  go_upto_region 1 with fail
  refine wp_gen fun X hX => ?_
  rw [← hX] at HX HY HB
  clear hX
  have x16 : (X).cell? ⟨w.heap.size, 16, none⟩ = some (.int .i64 s.tokens) := HX.out.cell 16
  have x17 : (X).cell? ⟨w.heap.size, 17, none⟩ = some (.int .u64 s.faces) := HX.out.cell 17
  have x18 : (X).cell? ⟨w.heap.size, 18, none⟩ = some (.int .u64 s.nominal) := HX.out.cell 18
  have y16 : (X).cell? ⟨w.heap.size + 1, 16, none⟩ = some (.int .i64 s.tokens) := HY.out.cell 16
  have y17 : (X).cell? ⟨w.heap.size + 1, 17, none⟩ = some (.int .u64 s.faces) := HY.out.cell 17
  have y18 : (X).cell? ⟨w.heap.size + 1, 18, none⟩ = some (.int .u64 s.nominal) := HY.out.cell 18
  go_wp2_with (first
    | (refine wpList_load_blkG (by rfl) 33 (.tmp 26) rfl w.heap.size 12 4 HX.out (s.pf B d).cs (by rfl) (st_pf s A c B d) Tryz.underlying33 infoPf (by show 16 ≤ 20; omega) ?_)
    | (refine wpList_load_blkG (by rfl) 33 (.tmp 28) rfl (w.heap.size + 1) 12 4 HY.out (s.pf B' d').cs (by rfl) (st_pft s e A' c' B' d') Tryz.underlying33 infoPf (by show 16 ≤ 20; omega) ?_))
  refine (HNS _ HB.out).out.mono ?_
  rintro e' V ⟨rfl, hb⟩
  replace HX := Lib.hid (HX.out.bel hb)
  replace HY := Lib.hid (HY.out.bel hb)
  replace HB := Lib.hid (HB.out.trans (hb.mono HB.out.size))
  clear hb x16 x17 x18 y16 y17 y18 HNS
  have x11 : V.cell? ⟨w.heap.size, 11, none⟩ = some (.slice A s.tops.length c) := HX.out.cell 11
  have y11 : V.cell? ⟨w.heap.size + 1, 11, none⟩ = some (.slice A' (s.addtop e).tops.length c') := HY.out.cell 11
  go_wp2_with (first
    | (refine wpList_load_blkG (by rfl) 28 (.tmp 34) rfl w.heap.size 0 11 HX.out #[.string (s.lock).tx, .int .i64 (s.lock).out, .int .i64 (s.lock).o.kind, .int .u64 ((s.lock).o.am : Nat), .string (s.lock).o.key, .string (s.lock).o.gate, .int .i64 (s.lock).o.ex, .string (s.lock).o.anchor, .int .u64 ((s.lock).o.unit : Nat), .int .i64 (s.lock).o.tok, .string (s.lock).o.of_] (by rfl) (by rfl) Tryz.underlying28 infoEnt (by show 11 ≤ 20; omega) ?_)
    | (refine wpList_load_blkG (by rfl) 28 (.tmp 36) rfl (w.heap.size + 1) 0 11 HY.out #[.string (s.lock).tx, .int .i64 (s.lock).out, .int .i64 (s.lock).o.kind, .int .u64 ((s.lock).o.am : Nat), .string (s.lock).o.key, .string (s.lock).o.gate, .int .i64 (s.lock).o.ex, .string (s.lock).o.anchor, .int .u64 ((s.lock).o.unit : Nat), .int .i64 (s.lock).o.tok, .string (s.lock).o.of_] (by rfl) (by rfl) Tryz.underlying28 infoEnt (by show 11 ≤ 20; omega) ?_))
  refine (HEQ _).out.mono ?_
  rintro e' V2 ⟨rfl, hb⟩
  replace HX := Lib.hid (HX.out.bel hb)
  replace HY := Lib.hid (HY.out.bel hb)
  replace HB := Lib.hid (HB.out.trans (hb.mono HB.out.size))
  clear hb x11 y11 HEQ
  go_wp2_with fail
  go_ret
  exact ⟨rfl, HB.out⟩
end Go.Proofs.YtpbcfeghfcodcaaGreat
namespace Go.Proofs.YtpbcfeghfcodcaaGreat
open Go.RowKit Go.Maps
def e0C : En := ⟨txC17, 0, lkoL rC rC 100 9⟩
def e1C : En := ⟨txC17, 1, lkoM rC rC 20 9 chC⟩
theorem lkT_C : lkoT rC rC 100 20 9 = [e0C, e1C] := rfl
theorem lkOk_C : LkOk rC rC 100 20 9 := ⟨rC_size, rC_size, by decide, by decide, by decide, by decide, by decide, by decide⟩
theorem fits_e0 : fitsB e0C.o = true := by
  have h := lk_fits lkOk_C chC chC_size
  simp only [newU, List.all_cons, List.all_nil, Bool.and_true, Bool.and_eq_true] at h
  exact h.2.1
theorem fits_e1 : fitsB e1C.o = true := by
  have h := lk_fits lkOk_C chC chC_size
  simp only [newU, List.all_cons, List.all_nil, Bool.and_true, Bool.and_eq_true] at h
  exact h.2.2
def sgC : ByteArray := signB sdC 1 0 (vouchB chC 110)
theorem sgC_size : sgC.size = 305 := by unfold sgC; rw [signB_size _ (by decide)]
def tkC : ByteArray := tokB wTok 5 2
def s0C : St := newS e0C
def t0C : St := s0C.addtop e1C
def a0C : St := t0C.vouch 110 sgC
def b0C : St := a0C.token tkC 2
def wnC : Wn := ⟨⟨ByteArray.empty, 0, 20, 1, 2, ByteArray.empty, 1, ByteArray.empty⟩, ByteArray.empty, 0⟩
def x0C : St := b0C.nom 10
/-! the lists of a state do not matter -/
section
variable (s : St) (A : Option Addr) (c : Nat) (B : Option Addr) (d : Nat) (A' : Option Addr) (c' : Nat) (B' : Option Addr) (d' : Nat)
theorem St.fit.lists_ {s : St} (h : s.fit) (A : Option Addr) (c : Nat) (B : Option Addr) (d : Nat) : (s.lists A c B d).fit := ⟨h.lam, h.lunit, h.am, h.tokens, h.faces, h.nominal, h.tams, h.tops, h.wins, h.tx⟩
theorem worth_ls : worthV (s.lists A c B d) = worthV s := rfl
theorem credit_ls : creditV (s.lists A c B d) = creditV s := rfl
theorem whole_ls : wholeV (s.lists A c B d) = wholeV s := rfl
theorem vouE_ls (am : Nat) (sig : ByteArray) (r : Nat) : vouE (s.lists A c B d) am sig r = vouE s am sig r := rfl
theorem tokE_ls (t : ByteArray) (mt r : Nat) : tokE (s.lists A c B d) t mt r = tokE s t mt r := rfl
theorem ticE_ls (x : Wn) (r : Nat) (h : ticB x = false) : ticE (s.lists A c B d) x r = ticE s x r := by
  unfold ticE
  simp only [h]
  rfl
theorem moreE_ls (e : En) (b : Bool) : moreE (s.lists A c B d) e b = moreE s e b := rfl
theorem vouch_ls (am : Nat) (sig : ByteArray) : ((s.lists A c B d).vouch am sig).lists A' c' B' d' = (s.vouch am sig).lists A' c' B' d' := rfl
theorem token_ls (t : ByteArray) (n : Nat) : ((s.lists A c B d).token t n).lists A' c' B' d' = (s.token t n).lists A' c' B' d' := rfl
theorem addtop_ls (e : En) : ((s.lists A c B d).addtop e).lists A' c' B' d' = (s.addtop e).lists A' c' B' d' := rfl
end
theorem new_e0 : newB e0C true = true := rfl
theorem new_e1 (b : Bool) : newB e1C b = false := rfl
theorem s0_fit : s0C.fit := ⟨by decide, by decide, by decide, by decide, by decide, by decide, (by intro e he; cases he), by decide, by decide, by show txC17.size ≤ 1000000; rw [show txC17.size = 16 from lkx_size _ _ _ _ _]; decide⟩
theorem t0_fit : t0C.fit := ⟨s0_fit.lam, s0_fit.lunit, s0_fit.am, s0_fit.tokens, s0_fit.faces, s0_fit.nominal, by
  intro e he
  obtain rfl : e = e1C := List.mem_singleton.1 he
  decide, by decide, by decide, s0_fit.tx⟩
theorem a0_fit : a0C.fit := t0_fit.vouch (by decide) _
theorem b0_fit : b0C.fit := ⟨a0_fit.lam, a0_fit.lunit, a0_fit.am, by decide, a0_fit.faces, a0_fit.nominal, a0_fit.tams, a0_fit.tops, a0_fit.wins, a0_fit.tx⟩
theorem x0_fit : x0C.fit := b0_fit.nom 10
theorem w_t0 : wholeV t0C = 120 := by decide +kernel
theorem w_a0 : worthV a0C = 110 := by decide +kernel
theorem w_b0 : worthV b0C = 116 := by decide +kernel
theorem w_x0 : worthV x0C = 116 := by decide +kernel
theorem c_b0 : creditV b0C = 116 := by decide +kernel
theorem c_x0 : creditV x0C = 126 := by decide +kernel
theorem nm_C : s0C.name = chC := rfl
theorem more1 : moreE s0C e1C true = 0 := by
  unfold moreE mustB
  rw [if_neg (by decide), show s0C.name = e1C.o.of_ from rfl, if_neg (by simp; exact ⟨rfl, rfl, rfl, rfl⟩), if_neg (by
    unfold sameP
    simp
    refine ⟨?_, ?_⟩
    · intro _ h; exact absurd h (by decide)
    · intro x hx; cases hx), if_neg (by decide)]
theorem more2 : moreE t0C e1C true = 7 := by
  unfold moreE mustB
  rw [if_neg (by decide), show t0C.name = e1C.o.of_ from rfl, if_neg (by simp; exact ⟨rfl, rfl, rfl, rfl⟩), if_pos (by
    unfold sameP
    simp
    right
    exact ⟨e1C, List.mem_singleton.2 rfl, rfl, rfl⟩)]
theorem more3 : moreE s0C e0C true = 13 := by
  unfold moreE mustB
  rw [if_neg (by decide), if_pos (by simp [e0C, lkoL])]
theorem rm_a10 : xroomB (t0C.vouch 110 sgC) 10 = true := by decide +kernel
theorem rm_a11 : xroomB (t0C.vouch 110 sgC) 11 = false := by decide +kernel
theorem rm_b : xroomB (a0C.token tkC 2) 0 = true := by decide +kernel
theorem vou1 : vouE t0C 110 sgC 10 = 0 := by
  unfold vouE
  rw [if_neg (by decide), if_neg (by decide), if_neg (by rw [sgC_size]; decide), show t0C.lock.o.key = rC from rfl, show t0C.name = chC from rfl, if_pos (show verB rC (vouchB chC 110) sgC = true from ver_110), if_pos rm_a10]
theorem vou2 : vouE t0C 110 sgC 11 = 9 := by
  unfold vouE
  rw [if_neg (by decide), if_neg (by decide), if_neg (by rw [sgC_size]; decide), show t0C.lock.o.key = rC from rfl, show t0C.name = chC from rfl, if_pos (show verB rC (vouchB chC 110) sgC = true from ver_110), if_neg (by rw [rm_a11]; decide)]
theorem vou3 : vouE a0C 110 sgC 0 = 11 := by
  unfold vouE
  rw [if_neg (by decide), if_pos (by decide)]
theorem vou4 : vouE t0C 111 sgC 0 = 10 := by
  unfold vouE
  rw [if_neg (by decide), if_neg (by decide), if_neg (by rw [sgC_size]; decide), show t0C.lock.o.key = rC from rfl, show t0C.name = chC from rfl, if_neg (by rw [show verB rC (vouchB chC 111) sgC = false from ver_111]; decide)]
theorem vou5 : vouE s0C.shut 1 ByteArray.empty 0 = 8 := by
  unfold vouE
  rw [if_pos (show s0C.shut.closed = true from rfl)]
theorem tok1 : tokE a0C tkC 5 0 = 0 := by
  unfold tokE
  rw [show a0C.lock.o.anchor = tokB wTok 5 0 from rfl, show tkC = tokB wTok 5 2 from rfl, cntE_tok, cntN_tok, if_neg (by decide), if_neg (by decide), if_neg (by decide), if_pos (show xroomB (a0C.token (tokB wTok 5 2) 2) 0 = true from rm_b)]
theorem tok2 : tokE b0C tkC 5 0 = 11 := by
  unfold tokE
  rw [show b0C.lock.o.anchor = tokB wTok 5 0 from rfl, show tkC = tokB wTok 5 2 from rfl, cntE_tok, cntN_tok, if_neg (by decide), if_neg (by decide), if_pos (by decide)]
theorem tok3 : tokE a0C chC 5 0 = 4 := by
  unfold tokE
  rw [show a0C.lock.o.anchor = tokB wTok 5 0 from rfl, cntE_ch, if_neg (by decide), if_pos (by decide)]
theorem tb_C : ticB wnC = false := by decide +kernel
theorem tv_C : ticV wnC = 10 := by decide +kernel
theorem tic1 : ticE b0C wnC 0 = 0 := by
  unfold ticE
  rw [tb_C, tv_C, if_neg (by decide), if_neg (by decide +kernel), if_neg (by decide +kernel), if_neg (by decide), if_neg (by decide +kernel)]
theorem ts_ls (A : Option Addr) (c : Nat) (B : Option Addr) (d : Nat) (A' : Option Addr) (c' : Nat) (B' : Option Addr) (d' : Nat) : (tickS (b0C.lists A c B d) wnC).lists A' c' B' d' = x0C.lists A' c' B' d' := by
  unfold tickS
  rw [tb_C, if_neg (by decide), tv_C]
  rfl
theorem wn_fit : wnC.fit := by constructor <;> decide
end Go.Proofs.YtpbcfeghfcodcaaGreat
namespace Go.Proofs.YtpbcfeghfcodcaaGreat
open Go.RowKit Go.Maps
/-- a state in a block, whole, its lists in rows of their own -/
structure StB (W : World) (g : Nat) (s : St) : Prop where
  blk : Blk W g 35 s.cs
  ls : ∃ N, LsAt s N W s.A s.c s.B s.d
theorem StB.mem {W : World} {g : Nat} {s : St} (h : StB W g s) : s.mem W := by
  obtain ⟨N, hl⟩ := h.ls
  exact hl.mem
theorem StB.bel {W W' : World} {g : Nat} {s : St} (h : StB W g s) (hb : Below W.heap.size W W') : StB W' g s := by
  obtain ⟨N, hl⟩ := h.ls
  exact ⟨h.blk.bel hb, N, hl.bel hb⟩
theorem StB.ch {W W' : World} {g q : Nat} {s : St} {t : TypeId} {cs : Array Value} (h : StB W g s) (hc : Ch [q] W W') (hq : Blk W q t cs) (h1 : t ≠ 35) (h2 : t ≠ 28) (h3 : t ≠ 45) : StB W' g s := by
  obtain ⟨N, hl⟩ := h.ls
  exact ⟨h.blk.ch hc (by simpa using h.blk.ne_ hq h1.symm), N, ⟨own_chT hl.r1 hc hq.kdT h2, own_chT hl.r2 hc hq.kdT h3, hl.n1, hl.n2⟩⟩
theorem StB.mk_ {W : World} {g N : Nat} {s : St} {A : Option Addr} {c : Nat} {B : Option Addr} {d : Nat} (h : Blk W g 35 (s.lists A c B d).cs) (hl : LsAt s N W A c B d) : StB W g (s.lists A c B d) := ⟨h, N, ⟨hl.r1, hl.r2, hl.n1, hl.n2⟩⟩
theorem newS_ls (e : En) (N : Nat) (W : World) : LsAt (newS e) N W (newS e).A (newS e).c (newS e).B (newS e).d := ⟨⟨rfl, .inl ⟨rfl, rfl⟩⟩, ⟨rfl, .inl ⟨rfl, rfl⟩⟩, fun _ => rfl, fun _ => rfl⟩
/-- what the fixed calls stand on -/
structure Fx (w0 : World) (kb kc ab off a5 : Nat) (W : World) : Prop where
  key : KeyAt W kb kc sdC 1 0
  s0 : StB W a5 s0C
  e0 : ∀ j u, e0C.cl[j]? = some u → W.cell? ⟨ab, off + j, none⟩ = some u
  e1 : ∀ j u, e1C.cl[j]? = some u → W.cell? ⟨ab, off + 11 + j, none⟩ = some u
  lt : ab < W.heap.size
  bel : Below w0.heap.size w0 W
  kc : w0.heap.size ≤ kc
theorem Fx.bel' {w0 : World} {kb kc ab off a5 : Nat} {W W' : World} (h : Fx w0 kb kc ab off a5 W) (hb : Below W.heap.size W W') : Fx w0 kb kc ab off a5 W' :=
  ⟨h.key.bel hb, h.s0.bel hb, fun j u hu => (hb.cell (p := ⟨ab, off + j, none⟩) h.lt).trans (h.e0 j u hu), fun j u hu => (hb.cell (p := ⟨ab, off + 11 + j, none⟩) h.lt).trans (h.e1 j u hu), Nat.lt_of_lt_of_le h.lt hb.size, h.bel.trans (hb.mono h.bel.size), h.kc⟩
theorem yields_en {ops : Array Oper} {S : World → Prop} {op : Oper} {a : Act} (hw : Region.wanted op (yielded ops a.tmps) = true) (x : Operand) (ho : op.op = .load 28 x)
    (g off : Nat) (y : En) (hS : ∀ w, S w → ∀ j u, y.cl[j]? = some u → w.cell? ⟨g, off + j, none⟩ = some u) (hx : a.eval x = .pointer (some ⟨g, off, none⟩)) : YieldsIf Tryz.prog ops S op (.agg y.cs) a := by
  have := yieldsIf_load_mid (P := Tryz.prog) (ops := ops) (S := S) hw 28 x ho g off hx y.cl _ (fun w h => hS w h) Tryz.underlying28 rfl (by rw [infoEnt]; rfl)
  rwa [show y.cl.toArray = y.cs from Array.toArray_toList ..] at this
theorem ChR.ok {s : St} {f : Int} {w : World} {e : Ending} {w' : World} (h : ChR s f w e w') (hf : f = 0) : ∃ A c B d, e = .returned (.tuple #[.agg (s.lists A c B d).cs, .int .i64 0]) ∧ LsAt s w.heap.size w' A c B d ∧ Below w.heap.size w w' := by
  obtain ⟨hb, ⟨hne, _⟩ | ⟨_, A, c, B, d, he, hl⟩⟩ := h
  · exact absurd hf hne
  · exact ⟨A, c, B, d, he, hl, hb⟩
theorem ChR.no {s : St} {f k : Int} {w : World} {e : Ending} {w' : World} (h : ChR s f w e w') (hf : f = k) (hk : k ≠ 0) : e = .returned (.tuple #[.agg zSt, .int .i64 k]) ∧ Below w.heap.size w w' := by
  subst hf
  obtain ⟨hb, ⟨_, he⟩ | ⟨h0, _⟩⟩ := h
  · exact ⟨he, hb⟩
  · exact absurd h0 hk
section
variable (A : Option Addr) (c : Nat) (B : Option Addr) (d : Nat) (W : World)
theorem fx_fits (e : En) (h : fitsB e.o = true) (W : World) : Calls Tryz.prog 46 #[.agg e.o.cs] W fun e' w' => e' = .returned (.bool true) ∧ Below W.heap.size W w' := by
  have := fits_gen e.o W
  rwa [h] at this
theorem fx_more1 : Calls Tryz.prog 27 #[.agg s0C.cs, .agg e1C.cs] W fun e w' => ∃ A c B d, e = .returned (.tuple #[.agg (t0C.lists A c B d).cs, .int .i64 0]) ∧ LsAt t0C W.heap.size w' A c B d ∧ Below W.heap.size W w' :=
  (xmore_any s0C e1C W s0_fit (by decide) (newS_mem _ _) (by decide) true (fx_fits e1C fits_e1)).mono fun _ _ h => by
    obtain ⟨hb, ⟨hne, _⟩ | ⟨_, A, c, B, d, he, hl⟩⟩ := h
    · exact absurd more1 hne
    · exact ⟨A, c, B, d, he, hl, hb⟩
theorem fx_more2 (h : (t0C.lists A c B d).mem W) : Calls Tryz.prog 27 #[.agg (t0C.lists A c B d).cs, .agg e1C.cs] W fun e w' => e = .returned (.tuple #[.agg zSt, .int .i64 7]) ∧ Below W.heap.size W w' :=
  (xmore_any (t0C.lists A c B d) e1C W (t0_fit.lists_ A c B d) (by show t0C.tops.length ≤ 900; decide) h (by decide) true (fx_fits e1C fits_e1)).mono fun _ _ h => h.no (by rw [moreE_ls]; exact more2) (by decide)
theorem fx_more3 : Calls Tryz.prog 27 #[.agg s0C.cs, .agg e0C.cs] W fun e w' => e = .returned (.tuple #[.agg zSt, .int .i64 13]) ∧ Below W.heap.size W w' :=
  (xmore_any s0C e0C W s0_fit (by decide) (newS_mem _ _) (by decide) true (fx_fits e0C fits_e0)).mono fun _ _ h => h.no more3 (by decide)
theorem sgz : sgC.size ≤ 1000000 := by rw [sgC_size]; decide
theorem fx_vou1 (h : (t0C.lists A c B d).mem W) : Calls Tryz.prog 31 #[.agg (t0C.lists A c B d).cs, .int .u64 110, .string sgC, .int .u64 10] W fun e w' => ∃ A c B d, e = .returned (.tuple #[.agg (a0C.lists A c B d).cs, .int .i64 0]) ∧ LsAt a0C W.heap.size w' A c B d ∧ Below W.heap.size W w' :=
  (xvoucher_any (t0C.lists A c B d) 110 sgC 10 W (t0_fit.lists_ A c B d) h (by decide) sgz (by decide)).mono fun _ _ h => by
    obtain ⟨A', c', B', d', he, hl, hb⟩ := h.ok (by rw [vouE_ls]; exact vou1)
    exact ⟨A', c', B', d', he, ⟨hl.r1, hl.r2, hl.n1, hl.n2⟩, hb⟩
theorem fx_vou2 (h : (t0C.lists A c B d).mem W) : Calls Tryz.prog 31 #[.agg (t0C.lists A c B d).cs, .int .u64 110, .string sgC, .int .u64 11] W fun e w' => e = .returned (.tuple #[.agg zSt, .int .i64 9]) ∧ Below W.heap.size W w' :=
  (xvoucher_any (t0C.lists A c B d) 110 sgC 11 W (t0_fit.lists_ A c B d) h (by decide) sgz (by decide)).mono fun _ _ h => h.no (by rw [vouE_ls]; exact vou2) (by decide)
theorem fx_vou3 (h : (a0C.lists A c B d).mem W) : Calls Tryz.prog 31 #[.agg (a0C.lists A c B d).cs, .int .u64 110, .string sgC, .int .u64 0] W fun e w' => e = .returned (.tuple #[.agg zSt, .int .i64 11]) ∧ Below W.heap.size W w' :=
  (xvoucher_any (a0C.lists A c B d) 110 sgC 0 W (a0_fit.lists_ A c B d) h (by decide) sgz (by decide)).mono fun _ _ h => h.no (by rw [vouE_ls]; exact vou3) (by decide)
theorem fx_vou4 (h : (t0C.lists A c B d).mem W) : Calls Tryz.prog 31 #[.agg (t0C.lists A c B d).cs, .int .u64 111, .string sgC, .int .u64 0] W fun e w' => e = .returned (.tuple #[.agg zSt, .int .i64 10]) ∧ Below W.heap.size W w' :=
  (xvoucher_any (t0C.lists A c B d) 111 sgC 0 W (t0_fit.lists_ A c B d) h (by decide) sgz (by decide)).mono fun _ _ h => h.no (by rw [vouE_ls]; exact vou4) (by decide)
theorem shut_fit : s0C.shut.fit := ⟨s0_fit.lam, s0_fit.lunit, s0_fit.am, s0_fit.tokens, s0_fit.faces, s0_fit.nominal, s0_fit.tams, s0_fit.tops, s0_fit.wins, s0_fit.tx⟩
theorem fx_whole (h : (t0C.lists A c B d).mem W) : Calls Tryz.prog 14 #[.agg (t0C.lists A c B d).cs] W fun e w' => e = .returned (.int .u64 120) ∧ Below W.heap.size W w' := by
  have q := swhole_gen (t0C.lists A c B d) W (t0_fit.lists_ A c B d) h.tops
  rwa [whole_ls, w_t0] at q
theorem fx_worth_a : Calls Tryz.prog 13 #[.agg (a0C.lists A c B d).cs] W fun e w' => e = .returned (.int .u64 110) ∧ Below W.heap.size W w' := by
  have q := sworth_any (a0C.lists A c B d) W (a0_fit.lists_ A c B d)
  rwa [worth_ls, w_a0] at q
theorem fx_worth_b : Calls Tryz.prog 13 #[.agg (b0C.lists A c B d).cs] W fun e w' => e = .returned (.int .u64 116) ∧ Below W.heap.size W w' := by
  have q := sworth_any (b0C.lists A c B d) W (b0_fit.lists_ A c B d)
  rwa [worth_ls, w_b0] at q
theorem fx_worth_x : Calls Tryz.prog 13 #[.agg (x0C.lists A c B d).cs] W fun e w' => e = .returned (.int .u64 116) ∧ Below W.heap.size W w' := by
  have q := sworth_any (x0C.lists A c B d) W (x0_fit.lists_ A c B d)
  rwa [worth_ls, w_x0] at q
theorem fx_credit_b : Calls Tryz.prog 15 #[.agg (b0C.lists A c B d).cs] W fun e w' => e = .returned (.int .u64 116) ∧ Below W.heap.size W w' := by
  have q := scredit_any (b0C.lists A c B d) W (b0_fit.lists_ A c B d)
  rwa [credit_ls, c_b0] at q
theorem fx_credit_x : Calls Tryz.prog 15 #[.agg (x0C.lists A c B d).cs] W fun e w' => e = .returned (.int .u64 126) ∧ Below W.heap.size W w' := by
  have q := scredit_any (x0C.lists A c B d) W (x0_fit.lists_ A c B d)
  rwa [credit_ls, c_x0] at q
theorem fx_same : Calls Tryz.prog 8 #[.agg s0C.cs, .agg s0C.cs] W fun e w' => e = .returned (.bool true) ∧ Below W.heap.size W w' :=
  xsame_any s0C none 0 none 0 none 0 none 0 W (newS_mem _ _) (newS_mem _ _) (by decide) (by decide)
theorem fx_apart (h : (t0C.lists A c B d).mem W) : Calls Tryz.prog 8 #[.agg s0C.cs, .agg (t0C.lists A c B d).cs] W fun e w' => e = .returned (.bool false) ∧ Below W.heap.size W w' :=
  xsame_top s0C e1C none 0 none 0 A c B d W (newS_mem _ _) h (by decide) (by decide)
theorem fx_close : Calls Tryz.prog 10 #[.agg s0C.cs] W fun e w' => ∃ A c B d, e = .returned (.agg (s0C.shut.lists A c B d).cs) ∧ (s0C.shut.lists A c B d).mem w' ∧ Below W.heap.size W w' :=
  (xclose_any s0C W s0_fit (newS_mem _ _)).mono fun _ _ ⟨hb, A, c, B, d, he, hl⟩ => ⟨A, c, B, d, he, hl.mem, hb⟩
theorem fx_vou5 (h : (s0C.shut.lists A c B d).mem W) : Calls Tryz.prog 31 #[.agg (s0C.shut.lists A c B d).cs, .int .u64 1, .string ByteArray.empty, .int .u64 0] W fun e w' => e = .returned (.tuple #[.agg zSt, .int .i64 8]) ∧ Below W.heap.size W w' :=
  (xvoucher_any (s0C.shut.lists A c B d) 1 ByteArray.empty 0 W (shut_fit.lists_ A c B d) h (by decide) (by decide) (by decide)).mono fun _ _ h => h.no (by rw [vouE_ls]; exact vou5) (by decide)
theorem an_size : (tokB wTok 5 0).size = 16 := tokB_size _ _ _
theorem fx_tok1 (h : (a0C.lists A c B d).mem W) : Calls Tryz.prog 34 #[.agg (a0C.lists A c B d).cs, .string tkC, .int .u64 0] W fun e w' => ∃ A c B d, e = .returned (.tuple #[.agg (b0C.lists A c B d).cs, .int .i64 0]) ∧ LsAt b0C W.heap.size w' A c B d ∧ Below W.heap.size W w' :=
  (xtoken_any (a0C.lists A c B d) tkC 5 0 W (a0_fit.lists_ A c B d) h an_size rfl (by decide) (by decide)).mono fun _ _ h => by
    have h' := h.ok (by rw [tokE_ls]; exact tok1)
    rw [show cntN (a0C.lists A c B d).lock.o.anchor tkC 5 = 2 from cntN_tok] at h'
    obtain ⟨A', c', B', d', he, hl, hb⟩ := h'
    exact ⟨A', c', B', d', he, ⟨hl.r1, hl.r2, hl.n1, hl.n2⟩, hb⟩
theorem fx_tok2 (h : (b0C.lists A c B d).mem W) : Calls Tryz.prog 34 #[.agg (b0C.lists A c B d).cs, .string tkC, .int .u64 0] W fun e w' => e = .returned (.tuple #[.agg zSt, .int .i64 11]) ∧ Below W.heap.size W w' :=
  (xtoken_any (b0C.lists A c B d) tkC 5 0 W (b0_fit.lists_ A c B d) h an_size rfl (by decide) (by decide)).mono fun _ _ h => h.no (by rw [tokE_ls]; exact tok2) (by decide)
theorem fx_tok3 (h : (a0C.lists A c B d).mem W) : Calls Tryz.prog 34 #[.agg (a0C.lists A c B d).cs, .string chC, .int .u64 0] W fun e w' => e = .returned (.tuple #[.agg zSt, .int .i64 4]) ∧ Below W.heap.size W w' :=
  (xtoken_any (a0C.lists A c B d) chC 5 0 W (a0_fit.lists_ A c B d) h an_size rfl (by decide) (by decide)).mono fun _ _ h => h.no (by rw [tokE_ls]; exact tok3) (by decide)
theorem fx_tic1 (h : (b0C.lists A c B d).mem W) : Calls Tryz.prog 35 #[.agg (b0C.lists A c B d).cs, .agg wnC.cs, .int .u64 0] W fun e w' => ∃ A c B d, e = .returned (.tuple #[.agg (x0C.lists A c B d).cs, .int .i64 0]) ∧ LsAt x0C W.heap.size w' A c B d ∧ Below W.heap.size W w' :=
  (xticket_any (b0C.lists A c B d) wnC 0 W (b0_fit.lists_ A c B d) (by show b0C.wins.length ≤ 900; decide) h wn_fit (by decide)).mono fun _ _ h => by
    obtain ⟨A', c', B', d', he, hl, hb⟩ := h.ok (by rw [ticE_ls _ _ _ _ _ _ _ tb_C]; exact tic1)
    rw [ts_ls] at he
    have ew : (tickS (b0C.lists A c B d) wnC).wins = x0C.wins := by unfold tickS; rw [tb_C, if_neg (by decide)]; rfl
    have et : (tickS (b0C.lists A c B d) wnC).tops = x0C.tops := by unfold tickS; rw [tb_C, if_neg (by decide)]; rfl
    exact ⟨A', c', B', d', he, ⟨et ▸ hl.r1, ew ▸ hl.r2, hl.n1, hl.n2⟩, hb⟩
end
end Go.Proofs.YtpbcfeghfcodcaaGreat
