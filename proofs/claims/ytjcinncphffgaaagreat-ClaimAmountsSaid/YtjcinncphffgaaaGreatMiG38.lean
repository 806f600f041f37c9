/- Two keys in memory; what stays when one of them signs. law11's Locked, with nothing more. What spends all of some outputs: whether it may be (no program). What spends all of a channel: claims and refunds (no program). -/
import Derived.Test.YtjcinncphffgaaaGreatMiG34
import Derived.Test.YtjcinncphffgaaaGreatMiG35
set_option linter.unusedVariables false
set_option linter.unusedSimpArgs false
namespace Go.Proofs.YtjcinncphffgaaaGreat
section
open Go.RowKit Go.Maps
theorem KeyAt.cnt {w : World} {kb cb h i : Nat} {seed : ByteArray} (k : KeyAt w kb cb seed h i) : Blk w cb 160 #[.int .i64 (i : Int), .int .i64 (2 ^ h : Nat)] := by
 obtain ⟨_, _, h2, _⟩ := k; exact h2
theorem KeyAt.hd {w : World} {kb cb h i : Nat} {seed : ByteArray} (k : KeyAt w kb cb seed h i) : ∃ cs, Blk w kb 68 cs := by
 obtain ⟨_, h1, _, _⟩ := k; exact ⟨_, h1⟩
theorem KeyAt.other {w w' : World} {kb cb kg cg h i h' j : Nat} {seed seed' : ByteArray} (k : KeyAt w kb cb seed h i) (k' : KeyAt w kg cg seed' h' j) (hne : cb ≠ cg) (hc : Ch [cb] w w') : KeyAt w' kg cg seed' h' j := by
 obtain ⟨cs, hk⟩ := k'.hd
 have hct := k.cnt
 refine k'.ch hc (by have := hk.ne_ hct (by decide); simpa using this) (by simpa using Ne.symm hne) (fun g hg cs fr he => ?_)
 simp at hg; subst hg
 unfold Blk at hct
 rw [hct] at he
 injection he with he
 injection he with _ he _
 exact absurd he (by decide)
theorem SetAt.key {w w' : World} {kb cb h i sb b : Nat} {seed : ByteArray} {T : List En} (s : SetAt w sb b T) (k : KeyAt w kb cb seed h i) (hc : Ch [cb] w w') : SetAt w' sb b T :=
 ⟨s.hd.ch hc (by have := s.hd.ne_ k.cnt (by decide); simpa using this), s.ut.ch hc (by have := s.ut.ne_blk k.cnt; simpa using this)⟩
theorem sl_keyT {α : Type} {w w' : World} {k j0 kb cb h i : Nat} {seed : ByteArray} {enc : α → List Value} {A : Option Addr} {l : List α} (hs : Sl w w.heap.size k enc A l) (hk : KeyAt w kb cb seed h i) (hc : Ch [cb] w w') (hj : ∀ x, ∃ s, (enc x)[j0]? = some (.string s)) : Sl w' w'.heap.size k enc A l :=
 (sl_key (j0 := j0) (Nat.le_refl _) hs hk.cnt hc hj).more hc.size
/-- a client's key and a gateway's -/
structure TwoK (w : World) (kb cb : Nat) (sc : ByteArray) (hc i : Nat) (kg cg : Nat) (sg : ByteArray) (hg j : Nat) : Prop where
 kc : KeyAt w kb cb sc hc i
 kg : KeyAt w kg cg sg hg j
 ne : cb ≠ cg
section
variable {w w' : World} {kb cb hc i kg cg hg j : Nat} {sc sg : ByteArray}
theorem TwoK.bel (k : TwoK w kb cb sc hc i kg cg sg hg j) (hb : Below w.heap.size w w') : TwoK w' kb cb sc hc i kg cg sg hg j := ⟨k.kc.bel hb, k.kg.bel hb, k.ne⟩
theorem TwoK.signC {i' : Nat} (k : TwoK w kb cb sc hc i kg cg sg hg j) (h : Ch [cb] w w') (k' : KeyAt w' kb cb sc hc i') : TwoK w' kb cb sc hc i' kg cg sg hg j := ⟨k', k.kc.other k.kg k.ne h, k.ne⟩
theorem TwoK.signG {j' : Nat} (k : TwoK w kb cb sc hc i kg cg sg hg j) (h : Ch [cg] w w') (k' : KeyAt w' kg cg sg hg j') : TwoK w' kb cb sc hc i kg cg sg hg j' := ⟨k.kg.other k.kc (Ne.symm k.ne) h, k', k.ne⟩
end
theorem sl_bel {α : Type} {w w' : World} {k : Nat} {enc : α → List Value} {A : Option Addr} {l : List α} (h : Sl w w.heap.size k enc A l) (hb : Below w.heap.size w w') : Sl w' w'.heap.size k enc A l := (h.below hb).more hb.size
end
section
open Go.RowKit Go.Maps
/-- the outputs that are locked, and their places -/
def lkX1 (cl gt : ByteArray) (am mo ex : Nat) : ByteArray := if mo = 0 then firstB [lkoL cl gt am ex] else lkoX cl gt am mo ex
def lkO1 (cl gt : ByteArray) (am mo ex : Nat) : List Ou := if mo = 0 then [lkoL cl gt am ex] else [lkoL cl gt am ex, lkoM cl gt mo ex (nameO (lkoX cl gt am mo ex) 0)]
def lkT1 (cl gt : ByteArray) (am mo ex : Nat) : List En := utN (lkX1 cl gt am mo ex) (lkO1 cl gt am mo ex)
structure LkOk1 (cl gt : ByteArray) (am mo ex : Nat) : Prop where
 cl : cl.size = 16
 gt : gt.size = 16
 am0 : 0 < am
 am : am < 18446744073709551616
 mo : mo < 18446744073709551616
 ex0 : 1 ≤ ex
 ex : ex ≤ 4294967295
theorem lk1_fits {cl gt : ByteArray} {am mo ex : Nat} (h : LkOk1 cl gt am mo ex) : fitsB (lkoL cl gt am ex) = true := by
 have ht := tokB_size wTok 5 0
 have a1 := h.am0
 have a3 := h.ex0
 have a4 := h.ex
 have z0 : ByteArray.empty.size = 0 := rfl
 simp [fitsB, lkoL, fits2B, h.cl, h.gt, ht, z0]
 exact ⟨⟨decide_eq_true a1, decide_eq_true (by omega)⟩, decide_eq_true (by omega)⟩
set_option maxRecDepth 100000 in
set_option maxHeartbeats 1000000 in
theorem locked_one (cl gt : ByteArray) (am ex : Nat) (w : World) (h : LkOk1 cl gt am 0 ex) :
  Calls Tryz.prog 37 #[.string cl, .string gt, .int .u64 (am : Nat), .int .u64 0, .int .i64 (ex : Int)] w fun e w' => ∃ sb b A c, e = .returned (.tuple #[.pointer (some ⟨sb, 0, none⟩), .slice A 1 c]) ∧ w.heap.size ≤ sb ∧ w.heap.size ≤ b ∧ SetAt w' sb b (lkT1 cl gt am 0 ex) ∧ Sl w' w'.heap.size 11 En.cl A (lkT1 cl gt am 0 ex) ∧ Below w.heap.size w w' := by
 have HPN := fun W => Lib.hid (pnew_any wTok 5 W (by omega) (by omega) (by decide))
 have HLK := Lib.hid h
 have d1 : decide ((0 : Int) < (0 : Int)) = false := rfl
 obtain ⟨tk, htk⟩ : ∃ tk, tk = tokB wTok 5 0 := ⟨_, rfl⟩
 have HTK := Lib.hid htk
 have hl1 : (lkT1 cl gt am 0 ex).length = 1 := utN_len _ _
 have HTT : Hid (lkT1 cl gt am 0 ex = utN (firstB [lkoL cl gt am ex]) [lkoL cl gt am ex]) := rfl
 have HNU : Hid (newU [lkoL cl gt am ex] = true) := Lib.hid (by simp [newU, lk1_fits h])
 generalize lkT1 cl gt am 0 ex = T1 at HTT hl1 ⊢
 have HL1 := Lib.hid hl1
 clear h htk hl1
 go_enter Tryz.func37, Tryz.ntmps37
 go_wp2_with fail
 refine (HPN _).out.mono ?_
 rintro e w1 ⟨cb, rfl, hcb, hch, hb⟩
 have HB1 := Lib.hid hb
 have HCH := Lib.hid hch
 clear hb hch HPN
 go_wp2_with fail
 refine (panchor_any cb 5 wTok _ HCH.out).mono ?_
 rintro e w2 ⟨rfl, rfl⟩
 rw [← HTK.out]
 have HG : Hid (Blk (w1.alloc (.cells (lkoL cl gt am ex).cs 81)) w1.heap.size 81 (lkoL cl gt am ex).cs) := Blk.new _ _ _
 have HB2 : Hid (Below w.heap.size w (w1.alloc (.cells (lkoL cl gt am ex).cs 81))) := Lib.hid (HB1.out.alloc HB1.out.size _)
 have hsl : Sl (w1.alloc (.cells (lkoL cl gt am ex).cs 81)) (w1.alloc (.cells (lkoL cl gt am ex).cs 81)).heap.size 9 Ou.cl (some ⟨w1.heap.size, 0, none⟩) [lkoL cl gt am ex] := Sl.of_own (base := w1.heap.size) (n := 1) (c := 1) (e := 81) (fun _ => rfl) (by rw [List.flatMap_singleton]; exact own_lit (base := w1.heap.size) (n := 1) (k := 9) (cs := (lkoL cl gt am ex).cs) HG.out (Nat.le_refl _) rfl (by decide))
 have HN2 := Lib.hid (unew_ok (some ⟨w1.heap.size, 0, none⟩) [lkoL cl gt am ex] 1 _ hsl HNU.out (by intro o ho; simp at ho; rw [ho]; exact HLK.out.am))
 rw [← HTT.out] at HN2
 clear hsl HG
 rw [lkoL, ← HTK.out] at HN2 HB2
 go_wp2_with fail
 refine HN2.out.mono ?_
 rintro e w3 ⟨sb, b, rfl, hsb, hbb, hset, hb⟩
 have HS3 := Lib.hid hset
 have HB3 := Lib.hid (HB2.out.trans (hb.mono HB2.out.size))
 have HZ2 : Hid (w.heap.size ≤ sb ∧ w.heap.size ≤ b) := Lib.hid ⟨Nat.le_trans HB2.out.size hsb, Nat.le_trans HB2.out.size hbb⟩
 clear hset hb HN2 hsb hbb HB2
 go_wp2_with fail
 refine (all_n 1 sb b T1 w3 HS3.out HL1.out (by omega) (by omega)).mono ?_
 rintro e w4 ⟨A4, c4, rfl, _, hb⟩
 have HS4 := Lib.hid (HS3.out.bel hb)
 have HB4 := Lib.hid (HB3.out.trans (hb.mono HB3.out.size))
 clear hb HS3 HB3
 go_wp2_with fail
 refine (all_n 1 sb b T1 w4 HS4.out HL1.out (by omega) (by omega)).mono ?_
 rintro e w5 ⟨A5, c5, rfl, hsl, hb⟩
 have HSL := Lib.hid hsl
 have HS5 := Lib.hid (HS4.out.bel hb)
 have HB5 := Lib.hid (HB4.out.trans (hb.mono HB4.out.size))
 clear hb HS4 HB4 hsl
 go_wp2_with fail
 go_ret2
 exact ⟨sb, b, A5, c5, rfl, HZ2.out.1, HZ2.out.2, HS5.out, HSL.out, HB5.out⟩
/-- what is locked, with more or without -/
theorem locked1_any (cl gt : ByteArray) (am mo ex : Nat) (w : World) (h : LkOk1 cl gt am mo ex) :
  Calls Tryz.prog 37 #[.string cl, .string gt, .int .u64 (am : Nat), .int .u64 (mo : Nat), .int .i64 (ex : Int)] w fun e w' => ∃ sb b A c, e = .returned (.tuple #[.pointer (some ⟨sb, 0, none⟩), .slice A (lkT1 cl gt am mo ex).length c]) ∧ w.heap.size ≤ sb ∧ w.heap.size ≤ b ∧ SetAt w' sb b (lkT1 cl gt am mo ex) ∧ Sl w' w'.heap.size 11 En.cl A (lkT1 cl gt am mo ex) ∧ Below w.heap.size w w' := by
 by_cases hm : mo = 0
 ·subst hm
  have hl : (lkT1 cl gt am 0 ex).length = 1 := utN_len _ _
  rw [hl]
  exact locked_one cl gt am ex w h
 ·have h2 : LkOk cl gt am mo ex := ⟨h.cl, h.gt, h.am0, h.am, by omega, h.mo, h.ex0, h.ex⟩
  have he : lkT1 cl gt am mo ex = lkoT cl gt am mo ex := by unfold lkT1 lkX1 lkO1 lkoT; rw [if_neg hm, if_neg hm]
  have hl : (lkT1 cl gt am mo ex).length = 2 := by rw [he]; exact utN_len _ _
  rw [hl, he]
  exact locked_any cl gt am mo ex w h2
end
section
open Go.RowKit Go.Maps
def noSig (i : Inp) : Inp := ⟨i.tx, i.out, i.path, ByteArray.empty⟩
/-- a transaction that spends all of some outputs on one path -/
structure InsOn (t : Txn) (L : List En) (path : Int) : Prop where
 eq : t.ins.map noSig = insOf L path ByteArray.empty
 sig : ∀ i ∈ t.ins, i.sig.size ≤ 400
theorem insOn_spend (A : Option Addr) (c : Nat) (L : List En) (path : Int) (B : Option Addr) (outs : List Ou) (d : Nat) (p : Pf) (sig : ByteArray) (hs : sig.size ≤ 400) : InsOn (spendT A c L path B outs d p sig) L path := by
 refine ⟨?_, ?_⟩
 ·show (insOf L path sig).map noSig = _
  unfold insOf
  rw [List.map_map]; rfl
 ·intro i hi
  obtain ⟨e, _, rfl⟩ := List.mem_map.1 hi
  exact hs
section
variable {t : Txn} {L : List En} {path : Int}
theorem InsOn.len (h : InsOn t L path) : t.ins.length = L.length := by
 have := congrArg List.length h.eq
 rwa [List.length_map, insOf_len] at this
theorem InsOn.at_ (h : InsOn t L path) (i : Nat) (hi : i < t.ins.length) : noSig t.ins[i] = ⟨(L[i]'(by rw [← h.len]; exact hi)).tx, (L[i]'(by rw [← h.len]; exact hi)).out, path, ByteArray.empty⟩ := by
 have h1 : (t.ins.map noSig)[i]? = (insOf L path ByteArray.empty)[i]? := by rw [h.eq]
 have hl : i < L.length := by rw [← h.len]; exact hi
 rw [List.getElem?_map, List.getElem?_eq_getElem hi, insOf, List.getElem?_map, List.getElem?_eq_getElem hl] at h1
 exact Option.some.inj h1
theorem InsOn.path_ (h : InsOn t L path) : ∀ i ∈ t.ins, i.path = path := by
 intro i hi
 obtain ⟨k, hk, rfl⟩ := List.getElem_of_mem hi
 exact congrArg Inp.path (h.at_ k hk)
theorem InsOn.path0 (h : InsOn t L path) (hn : 0 < L.length) : path0 t = path := by
 have h0 : 0 < t.ins.length := by rw [h.len]; exact hn
 unfold Go.Proofs.YtjcinncphffgaaaGreat.path0
 rw [List.headD_eq_head?_getD, List.head?_eq_getElem?, List.getElem?_eq_getElem h0]
 exact h.path_ _ (List.getElem_mem h0)
theorem entD_of {T : List En} (hs : SrtE T) {e : En} (he : e ∈ T) (path : Int) (sig : ByteArray) : entD T ⟨e.tx, e.out, path, sig⟩ = e := by
 have := getU_of_mem hs he
 unfold entD
 show En.mk e.tx e.out ((getU T e.pt).getD zOu) = e
 rw [this]; rfl
theorem InsOn.spent (h : InsOn t L path) (hs : SrtE L) : spentT L t = L := by
 have h1 : spentT L t = (t.ins.map noSig).map (entD L) := by
  unfold spentT
  rw [List.map_map]; rfl
 rw [h1, h.eq, insOf, List.map_map]
 have h2 : ∀ e ∈ L, (entD L ∘ fun e => (⟨e.tx, e.out, path, ByteArray.empty⟩ : Inp)) e = id e := fun e he => entD_of hs he path _
 rw [List.map_congr_left h2, List.map_id]
theorem InsOn.has (h : InsOn t L path) (hs : SrtE L) : t.ins.all (hasI L) = true := by
 rw [List.all_eq_true]
 intro i hi
 obtain ⟨k, hk, rfl⟩ := List.getElem_of_mem hi
 have hl : k < L.length := by rw [← h.len]; exact hk
 have h1 := h.at_ k hk
 have hp : t.ins[k].pt = L[k].pt := Prod.ext (congrArg Inp.tx h1) (congrArg Inp.out h1)
 unfold hasI
 rw [hp, getU_of_mem hs (List.getElem_mem hl)]; rfl
theorem InsOn.one (h : InsOn t L path) (hn : 0 < L.length) : oneP t = true := by
 unfold oneP
 rw [h.path0 hn]
 have : (t.ins.any fun i => decide (i.path ≠ path)) = false := by
  rw [List.any_eq_false]
  intro i hi
  rw [h.path_ i hi]; simp
 rw [this]; rfl
theorem InsOn.right (h : InsOn t L path) (hs : SrtE L) (hok : ∀ e ∈ L, e.okp) (hn : 1 ≤ L.length ∧ L.length ≤ 4) (hp : 1 ≤ path ∧ path ≤ 3) (hm : 1 ≤ t.outs.length ∧ t.outs.length ≤ 4) (hf : ∀ o ∈ t.outs, fitsB o = true) (hr : rightB t.p = true) : rightT t = true := by
 have h1 : t.ins.all inB = true := by
  rw [List.all_eq_true]
  intro i hi
  obtain ⟨k, hk, rfl⟩ := List.getElem_of_mem hi
  have hl : k < L.length := by rw [← h.len]; exact hk
  have e := h.at_ k hk
  obtain ⟨e1, e2, e3⟩ : t.ins[k].tx = L[k].tx ∧ t.ins[k].out = L[k].out ∧ t.ins[k].path = path := ⟨congrArg Inp.tx e, congrArg Inp.out e, congrArg Inp.path e⟩
  obtain ⟨o1, o2, o3⟩ := hok _ (List.getElem_mem hl)
  have hsg := h.sig _ (List.getElem_mem hk)
  unfold inB
  simp only [Bool.and_eq_true, decide_eq_true_eq]
  rw [e1, e2, e3]
  omega
 have h2 : (t.ins.map Inp.pt).Nodup := by
  have : t.ins.map Inp.pt = L.map En.pt := by
   have a : t.ins.map Inp.pt = (t.ins.map noSig).map Inp.pt := by rw [List.map_map]; rfl
   rw [a, h.eq, insOf, List.map_map]; rfl
  rw [this]
  exact srt_pts hs
 have h3 : (t.outs.any fun o => !fitsB o) = false := by
  rw [List.any_eq_false]
  intro o ho
  rw [hf o ho]; decide
 unfold rightT insB
 rw [h1, decide_eq_true h2, h3, hr]
 unfold winB4
 rw [h.len]
 simp only [Bool.true_and, Bool.and_eq_true, decide_eq_true_eq, Bool.not_false, and_true]
 omega
theorem insT_noSig : ∀ (l : List Inp) (s : ByteArray), insT l s = insT (l.map noSig) s
 | [], _ => rfl
 | i :: r, s => by
  show insT r (inT s i) = insT (r.map noSig) (inT s (noSig i))
  rw [insT_noSig r]; rfl
/-- what all that spend some outputs on one path sign -/
def coreOn (L : List En) (path : Int) (outs : List Ou) : ByteArray := outsT outs (insT (insOf L path ByteArray.empty) (ByteArray.empty ++ strOfNums [67] ++ strOfNums [(L.length : Int)]) ++ strOfNums [(outs.length : Int)])
theorem InsOn.core (h : InsOn t L path) (hr : rightT t = true) : coreX t = coreOn L path t.outs := by
 unfold coreX
 rw [hr, if_pos rfl]
 unfold coreT coreOn headT
 rw [insT_noSig, h.eq, h.len]
theorem InsOn.found (h : InsOn t L path) (hs : SrtE L) (hn : 0 < L.length) (hr : rightT t = true) (hq : path = 2 ∨ noneP t.p = true) : foundE L t = 0 := by
 unfold foundE
 rw [if_neg (by rw [hr]; decide), if_neg (by rw [h.has hs]; decide), h.one hn, h.path0 hn]
 have : (decide (path = 2) || noneP t.p) = true := by
  rcases hq with q | q
  ·rw [decide_eq_true q]; rfl
  ·rw [q]; simp
 rw [this]; rfl
theorem InsOn.may (h : InsOn t L path) (core : ByteArray) (hh : Int) (j : Nat) (hj : j < (mayL L t core hh).length) : ∃ (h0 : 0 < L.length) (h1 : j < L.length) (h2 : j < t.ins.length), (mayL L t core hh)[j] = mayE L[0] j L[j] t.ins[j] core hh ∧ t.ins[j].path = path := by
 have h2 : j < t.ins.length := by rwa [mayL_len] at hj
 have h1 : j < L.length := by rw [← h.len]; exact h2
 exact ⟨by omega, h1, h2, mayL_at L t core hh j h2 h.len.symm, h.path_ _ (List.getElem_mem h2)⟩
end
/-- a channel's outputs -/
structure ChanL (L : List En) (cl gt : ByteArray) (ex : Int) : Prop where
 pos : 0 < L.length
 lock : ∀ (h : 0 < L.length), L[0].o.kind = 2
 tops : ∀ j (h : j < L.length), 0 < j → L[j].o.kind = 3 ∧ L[j].o.of_ = nameO (L[0]'(by omega)).tx (L[0]'(by omega)).out
 key : ∀ e ∈ L, e.o.key = cl
 gate : ∀ e ∈ L, e.o.gate = gt
 ex : ∀ e ∈ L, e.o.ex = ex
theorem ChanL.claim {L : List En} {cl gt core : ByteArray} {ex h : Int} (hc : ChanL L cl gt ex) {j : Nat} (hj : j < L.length) {y : Inp} (hp : y.path = 2) (hv : verB gt core y.sig = true) : mayE (L[0]'(by omega)) j L[j] y core h = 0 := by
 have hg := hc.gate _ (List.getElem_mem hj)
 have hz : vkE L[j].o.gate core y.sig = 0 := by rw [hg]; unfold vkE; rw [hv]; rfl
 unfold mayE
 rw [if_neg (by omega), if_neg (by omega)]
 by_cases h0 : j = 0
 ·subst h0
  rw [if_pos rfl, if_pos (hc.lock hj), hz]
 ·obtain ⟨k1, k2⟩ := hc.tops j hj (by omega)
  rw [if_neg h0, if_pos k1, if_pos k2, hz]
theorem ChanL.kind {L : List En} {cl gt : ByteArray} {ex : Int} (hc : ChanL L cl gt ex) {j : Nat} (hj : j < L.length) : L[j].o.kind ≠ 1 := by
 by_cases h0 : j = 0
 ·subst h0; rw [hc.lock hj]; decide
 ·rw [(hc.tops j hj (by omega)).1]; decide
theorem ChanL.late {L : List En} {cl gt core : ByteArray} {ex h : Int} (hc : ChanL L cl gt ex) {j : Nat} (hj : j < L.length) {y : Inp} (hp : y.path = 3) (hx : h < ex) : mayE (L[0]'(by omega)) j L[j] y core h = 12 := by
 unfold mayE
 rw [if_neg (by omega), if_pos hp, if_neg (hc.kind hj), hc.ex _ (List.getElem_mem hj), if_pos hx]
theorem ChanL.refund {L : List En} {cl gt core : ByteArray} {ex h : Int} (hc : ChanL L cl gt ex) {j : Nat} (hj : j < L.length) {y : Inp} (hp : y.path = 3) (hx : ex ≤ h) : mayE (L[0]'(by omega)) j L[j] y core h = vkE cl core y.sig := by
 unfold mayE
 rw [if_neg (by omega), if_pos hp, if_neg (hc.kind hj), hc.ex _ (List.getElem_mem hj), if_neg (by omega), hc.key _ (List.getElem_mem hj)]
end
section
open Go.RowKit Go.Maps
theorem makes_pay {T : List En} {o : Ou} {h : Int} (k : o.kind = 1) : makesE T o h = 0 := by
 unfold makesE
 rw [if_neg (by omega), if_neg (by omega)]
theorem sums_ok {L : List En} {outs : List Ou} {n : Nat} (hn : totI (topsI L) = n) (h64 : n < 18446744073709551616) (ho : totI (ousI outs) + 10 = n) (hp : 0 ≤ totI (ousI outs)) : sumsE L outs = 0 := by
 have e1 : totE (topsI L) = 0 := by unfold totE; rw [hn, if_pos (by omega)]
 have e2 : totE (ousI outs) = 0 := by unfold totE; rw [if_pos (by omega)]
 have e3 : totV (ousI outs) = totI (ousI outs) := by unfold totV; rw [if_pos (by omega)]
 have e4 : totV (topsI L) = n := by unfold totV; rw [hn, if_pos (by omega)]
 have e5 : plusE (totI (ousI outs)) 10 = 0 := by unfold plusE; rw [if_pos (by omega)]
 have e6 : plusV (totI (ousI outs)) 10 = n := by unfold plusV; rw [if_pos (by omega)]; exact ho
 unfold sumsE
 rw [e1, e2, e3, e4, e5, e6]
 simp
theorem totV_n {l : List Int} {n : Nat} (hn : totI l = n) (h64 : n < 18446744073709551616) : (totV l).toNat = n := by
 unfold totV
 rw [hn, if_pos (by omega)]; exact Int.toNat_natCast n
section
variable {t : Txn} {L : List En} {cl gt : ByteArray} {ex hh : Int}
/-- a claim that is signed: it is as good as its proof -/
theorem check_claim (h : InsOn t L 2) (hs : SrtE L) (hn4 : L.length ≤ 4) (hc : ChanL L cl gt ex) (hr : rightT t = true) (hv : ∀ i ∈ t.ins, verB gt (coreOn L 2 t.outs) i.sig = true) (hsum : sumsE L t.outs = 0) (hmk : ∀ o ∈ t.outs, o.kind = 1) :
  checkE L t hh = claimsE (L[0]'hc.pos) t (totV (topsI L)).toNat := by
 have _u := hn4
 have e1 : foundE L t = 0 := h.found hs hc.pos hr (.inl rfl)
 have e2 : firstE (mayL L t (coreX t) hh) = 0 := firstE_zero _ (fun j hj => by
  obtain ⟨_, h1, h2, e, hp⟩ := h.may (coreX t) hh j hj
  rw [e]
  exact hc.claim h1 hp (by rw [h.core hr]; exact hv _ (List.getElem_mem h2)))
 have e3 : firstE (t.outs.map fun o => makesE L o hh) = 0 := firstE_zero _ (fun j hj => by
  rw [List.getElem_map]
  exact makes_pay (hmk _ (List.getElem_mem _)))
 have e4 : L.headD zEn = L[0]'hc.pos := by rw [List.headD_eq_head?_getD, List.head?_eq_getElem?, List.getElem?_eq_getElem hc.pos]; rfl
 unfold checkE
 rw [h.spent hs, e1, e2, hsum, e3, e4]
 simp only [ne_eq, not_true_eq_false, if_false]
 by_cases q : claimsE (L[0]'hc.pos) t (totV (topsI L)).toNat = 0
 ·rw [if_neg (by simpa using q), q]
 ·rw [if_pos q]
theorem check_late (h : InsOn t L 3) (hs : SrtE L) (hc : ChanL L cl gt ex) (hr : rightT t = true) (hp : noneP t.p = true) (hx : hh < ex) : checkE L t hh = 12 := by
 have e1 : foundE L t = 0 := h.found hs hc.pos hr (.inr hp)
 have hl0 : 0 < (mayL L t (coreX t) hh).length := by rw [mayL_len, h.len]; exact hc.pos
 have e0 : (mayL L t (coreX t) hh)[0] = 12 := by
  obtain ⟨_, h1, h2, e, hp⟩ := h.may (coreX t) hh 0 hl0
  rw [e]
  exact hc.late h1 hp hx
 have e2 : firstE (mayL L t (coreX t) hh) = 12 := by
  rw [firstE_at _ 0 hl0 (fun j hj q => absurd q (Nat.not_lt_zero j)) (by rw [e0]; decide), e0]
 unfold checkE
 rw [h.spent hs, e1, e2]
 simp
theorem check_refund (h : InsOn t L 3) (hs : SrtE L) (hc : ChanL L cl gt ex) (hr : rightT t = true) (hp : noneP t.p = true) (hx : ex ≤ hh) (hv : ∀ i ∈ t.ins, verB cl (coreOn L 3 t.outs) i.sig = true) (hsum : sumsE L t.outs = 0) (hmk : ∀ o ∈ t.outs, o.kind = 1) : checkE L t hh = 0 := by
 have e1 : foundE L t = 0 := h.found hs hc.pos hr (.inr hp)
 have e2 : firstE (mayL L t (coreX t) hh) = 0 := firstE_zero _ (fun j hj => by
  obtain ⟨_, h1, h2, e, hp⟩ := h.may (coreX t) hh j hj
  rw [e, hc.refund h1 hp hx, h.core hr]
  unfold vkE
  rw [hv _ (List.getElem_mem h2)]; rfl)
 have e3 : firstE (t.outs.map fun o => makesE L o hh) = 0 := firstE_zero _ (fun j hj => by
  rw [List.getElem_map]
  exact makes_pay (hmk _ (List.getElem_mem _)))
 have e4 : claimsE (L.headD zEn) t (totV (topsI L)).toNat = 0 := by
  unfold claimsE
  rw [if_pos (by rw [h.path0 hc.pos]; decide)]
 unfold checkE
 rw [h.spent hs, e1, e2, hsum, e3, e4]
 simp
end
/-! vouchers -/
def vouP (v : Nat) (sg : ByteArray) : Pf := ⟨v, sg, ByteArray.empty, none, [], 0⟩
theorem right_vou (v : Nat) (sg : ByteArray) (h : sg.size ≤ 400) : rightB (vouP v sg) = true := by
 unfold rightB vouP
 rw [decide_eq_true h]; rfl
theorem wor_vou (t : Tm) (v : Nat) (sg : ByteArray) (h : sg.size ≤ 400) (h0 : 0 < v) (h64 : v < 18446744073709551616) : worF t (vouP v sg) = if verB t.client (vouchB t.chan v) sg = true then ((v : Int), 0) else (0, 10) := by
 have e1 : paidB t (vouP v sg) = verB t.client (vouchB t.chan v) sg := by
  unfold paidB
  show (if 0 < v then _ else _) = _
  rw [if_pos h0]; rfl
 have e2 : tokF t (vouP v sg) = (0, 0) := by
  unfold tokF
  rw [if_pos (show (vouP v sg).tok = ByteArray.empty from rfl)]
 unfold worF
 rw [right_vou v sg h, if_neg (by decide), e1, e2]
 cases verB t.client (vouchB t.chan v) sg with
 | false => simp
 | true =>
  have e3 : facF t [] (vouP v sg).l = 0 := rfl
  have e4 : totI (fcI (vouP v sg).l ++ [((vouP v sg).am : Int), (0 : Int)]) = v := by
   show (v : Int) + (0 + 0) = v
   omega
  have e5 : totV (fcI (vouP v sg).l ++ [((vouP v sg).am : Int), (0 : Int)]) = v := by unfold totV; rw [e4, if_pos (by omega)]
  have e6 : totE (fcI (vouP v sg).l ++ [((vouP v sg).am : Int), (0 : Int)]) = 0 := by unfold totE; rw [e4, if_pos (by omega)]
  rw [e3]
  simp only [e5, e6, ne_eq, not_true_eq_false, if_false, if_true, Bool.true_eq_false]
theorem claims_vou {x : En} {t : Txn} {v n : Nat} {sg : ByteArray} (hp : path0 t = 2) (ht : t.p = vouP v sg) (h : sg.size ≤ 400) (h0 : 10 < v) (hn : v ≤ n) (h64 : v < 18446744073709551616) (hv : verB x.o.key (vouchB (nameO x.tx x.out) v) sg = true) (ho : t.outs = paysO x v n) : claimsE x t n = 0 := by
 have e := wor_vou (enT x x.o.tok.toNat) v sg h (by omega) h64
 have hv' : verB (enT x x.o.tok.toNat).client (vouchB (enT x x.o.tok.toNat).chan v) sg = true := hv
 rw [hv', if_pos rfl] at e
 unfold claimsE
 rw [hp, ht, e, ho, Int.toNat_natCast]
 have e2 : eqLo (paysO x v n) (paysO x v n) = true := (eqLo_iff _ _).2 rfl
 rw [e2]
 simp only [ne_eq, not_true_eq_false, if_false, if_true]
 rw [if_neg (by omega)]
theorem pays_tot (x : En) {v n : Nat} (h0 : 10 < v) (hn : v ≤ n) : totI (ousI (paysO x v n)) + 10 = n ∧ 0 ≤ totI (ousI (paysO x v n)) := by
 unfold paysO
 by_cases q : v < n
 ·rw [if_pos q]
  show ((v - 10 : Nat) : Int) + (((n - v : Nat) : Int) + 0) + 10 = n ∧ 0 ≤ ((v - 10 : Nat) : Int) + (((n - v : Nat) : Int) + 0)
  omega
 ·rw [if_neg q]
  show ((v - 10 : Nat) : Int) + 0 + 10 = n ∧ 0 ≤ ((v - 10 : Nat) : Int) + 0
  omega
theorem pays_len (x : En) (v n : Nat) : 1 ≤ (paysO x v n).length ∧ (paysO x v n).length ≤ 2 := by
 unfold paysO
 split <;> simp
theorem pays_fit {x : En} {v n : Nat} (h0 : 10 < v) (hg : x.o.gate.size = 16) (hk : x.o.key.size = 16) : ∀ o ∈ paysO x v n, fitsB o = true ∧ o.kind = 1 := by
 have hp : ∀ am key, 0 < am → key.size = 16 → fitsB (payO am key) = true ∧ (payO am key).kind = 1 := by
  intro am key ha hk
  refine ⟨?_, rfl⟩
  simp [fitsB, payO, fits1B, hk, emp_sz]
  exact decide_eq_true ha
 intro o ho
 unfold paysO at ho
 rcases List.mem_cons.1 ho with rfl | ho
 ·exact hp _ _ (by omega) hg
 ·by_cases q : v < n
  ·rw [if_pos q] at ho
   rw [List.mem_singleton] at ho
   rw [ho]
   exact hp _ _ (by omega) hk
  ·rw [if_neg q] at ho; cases ho
/-! what is there behind -/
end
end Go.Proofs.YtjcinncphffgaaaGreat
