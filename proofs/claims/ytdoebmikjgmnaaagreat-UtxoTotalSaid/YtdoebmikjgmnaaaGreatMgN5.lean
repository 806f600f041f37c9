/- utxo: what applying a transaction makes of the outputs, and of their total. law11: the first outputs, and a transaction that is cut: what they are. Operations of a plain region that are guarded, or on structs; texts' order as the walk has it. -/
import Derived.Laws.StructEq
import Derived.Test.YtdoebmikjgmnaaaGreatMgEqE
import Derived.Test.YtdoebmikjgmnaaaGreatMgG03
import Derived.Test.YtdoebmikjgmnaaaGreatMgG23
import Derived.Test.YtdoebmikjgmnaaaGreatMgG38
import Derived.Test.YtdoebmikjgmnaaaGreatMgN4
import Derived.Test.YtdoebmikjgmnaaaGreatMgN7
import Derived.Test.YtdoebmikjgmnaaaGreatMgUcL
set_option linter.unusedVariables false
set_option linter.unusedSimpArgs false
namespace Go.Proofs.YtdoebmikjgmnaaaGreat
open Go.RowKit Go.Maps
theorem totI_cons (a : Int) (l : List Int) : totI (a :: l) = a + totI l := rfl
theorem topsI_cons (e : En) (T : List En) : topsI (e :: T) = (e.o.am : Int) :: topsI T := rfl
theorem totI_perm {l m : List Int} (h : l.Perm m) : totI l = totI m := by
  induction h with
  | nil => rfl
  | cons x _ ih => rw [totI_cons, totI_cons, ih]
  | swap x y l => simp only [totI_cons]; omega
  | trans _ _ h1 h2 => exact h1.trans h2
theorem tops_perm {T U : List En} (h : T.Perm U) : totI (topsI T) = totI (topsI U) := totI_perm (h.map _)
theorem delU_yes {p : Pt} {e : En} {r : List En} (h : e.pt = p) : delU p (e :: r) = delU p r := by
  unfold delU; rw [List.filter_cons, if_neg (by simpa using h)]
theorem delU_no {p : Pt} {e : En} {r : List En} (h : e.pt ≠ p) : delU p (e :: r) = e :: delU p r := by
  unfold delU; rw [List.filter_cons, if_pos (by simpa using h)]
theorem delU_none {p : Pt} : ∀ {T : List En}, getU T p = none → delU p T = T
  | [], _ => rfl
  | e :: r, h => by
    rw [getU_cons] at h
    by_cases he : e.pt = p
    · rw [if_pos he] at h; cases h
    · rw [if_neg he] at h
      rw [delU_no he, delU_none h]
theorem putU_tot {e : En} {T : List En} (h : getU T e.pt = none) : totI (topsI (putU e T)) = (e.o.am : Int) + totI (topsI T) := by
  unfold putU
  rw [tops_perm (insE_perm e _), delU_none h]; rfl
theorem delU_tot {p : Pt} {o : Ou} : ∀ {T : List En}, SrtE T → getU T p = some o → totI (topsI (delU p T)) = totI (topsI T) - o.am
  | e :: r, hs, h => by
    obtain ⟨h1, h2⟩ := List.pairwise_cons.1 hs
    rw [getU_cons] at h
    by_cases he : e.pt = p
    · rw [if_pos he] at h
      injection h with h
      have hr : delU p r = r := by
        refine List.filter_eq_self.2 fun x hx => ?_
        have h3 := ltP_ne (h1 x hx)
        simp only [Bool.not_eq_true', decide_eq_false_iff_not]
        intro e2; exact h3 (he.trans e2.symm)
      rw [delU_yes he, hr, topsI_cons, totI_cons, h]; omega
    · rw [if_neg he] at h
      rw [delU_no he, topsI_cons, topsI_cons, totI_cons, totI_cons, delU_tot h2 h]; omega
theorem getU_del_ne {p q : Pt} (h : q ≠ p) : ∀ (T : List En), getU (delU p T) q = getU T q
  | [] => rfl
  | e :: r => by
    by_cases he : e.pt = p
    · rw [delU_yes he, getU_cons, if_neg (by rw [he]; exact Ne.symm h)]; exact getU_del_ne h r
    · rw [delU_no he, getU_cons, getU_cons, getU_del_ne h r]
theorem getU_del_self (p : Pt) (T : List En) : getU (delU p T) p = none := by
  cases h : getU (delU p T) p with
  | none => rfl
  | some o => obtain ⟨e, he, h1, _⟩ := getU_mem h; exact absurd h1 (delU_ne p e he)
theorem getU_del_none {p q : Pt} {T : List En} (h : getU T q = none) : getU (delU p T) q = none := by
  by_cases e : q = p
  · subst e; exact getU_del_self _ _
  · rw [getU_del_ne e]; exact h
theorem getU_put_self (e : En) {T : List En} (hs : SrtE T) : getU (putU e T) e.pt = some e.o := getU_of_mem (putU_srt e hs) ((insE_perm e _).mem_iff.2 (by simp))
theorem getU_put_ne {e : En} {T : List En} (hs : SrtE T) {q : Pt} (h : q ≠ e.pt) : getU (putU e T) q = getU T q := by
  cases h1 : getU T q with
  | some o =>
    obtain ⟨x, hx, rfl, rfl⟩ := getU_mem h1
    have hm : x ∈ putU e T := (insE_perm e _).mem_iff.2 (List.mem_cons.2 (.inr (List.mem_filter.2 ⟨hx, by simpa using h⟩)))
    exact getU_of_mem (putU_srt e hs) hm
  | none =>
    cases h2 : getU (putU e T) q with
    | none => rfl
    | some o =>
      obtain ⟨x, hx, rfl, rfl⟩ := getU_mem h2
      rcases putU_mem hx with rfl | hx
      · exact absurd rfl h
      · rw [getU_of_mem hs hx] at h1; cases h1
theorem delAll_srt : ∀ (l : List Inp) {T : List En}, SrtE T → SrtE (delAll l T)
  | [], _, h => h
  | i :: r, _, h => delAll_srt r (delU_srt i.pt h)
theorem delAll_none {q : Pt} : ∀ (l : List Inp) {T : List En}, getU T q = none → getU (delAll l T) q = none
  | [], _, h => h
  | i :: r, _, h => delAll_none r (getU_del_none (p := i.pt) h)
theorem delAll_gone {q : Pt} : ∀ (l : List Inp) (T : List En), (∃ i ∈ l, i.pt = q) → getU (delAll l T) q = none
  | [], _, h => by obtain ⟨i, hi, _⟩ := h; cases hi
  | i :: r, T, h => by
    by_cases e : i.pt = q
    · exact delAll_none (T := delU i.pt T) r (by rw [← e]; exact getU_del_self _ _)
    · refine delAll_gone r (delU i.pt T) ?_
      obtain ⟨j, hj, hq⟩ := h
      rcases List.mem_cons.1 hj with rfl | hj
      · exact absurd hq e
      · exact ⟨j, hj, hq⟩
theorem delAll_sub : ∀ (l : List Inp) {T : List En} {e : En}, e ∈ delAll l T → e ∈ T
  | [], _, _, h => h
  | i :: r, T, e, h => (List.mem_filter.1 (delAll_sub r (T := delU i.pt T) h)).1
theorem delAll_tot : ∀ (l : List Inp) {T : List En}, SrtE T → (l.map Inp.pt).Nodup → (∀ i ∈ l, hasI T i = true) → totI (topsI (delAll l T)) = totI (topsI T) - totI (topsI (l.map (entD T)))
  | [], T, _, _, _ => by show totI (topsI T) = totI (topsI T) - 0; omega
  | i :: r, T, hs, hn, hh => by
    rw [List.map_cons, List.nodup_cons] at hn
    have hi := hh i (by simp)
    have hg := (entD_mem hi).2
    have hne : ∀ j ∈ r, j.pt ≠ i.pt := fun j hj e => hn.1 (by rw [← e]; exact List.mem_map_of_mem hj)
    have e1 : ∀ j ∈ r, getU (delU i.pt T) j.pt = getU T j.pt := fun j hj => getU_del_ne (hne j hj) T
    have e2 : r.map (entD (delU i.pt T)) = r.map (entD T) := List.map_congr_left fun j hj => by unfold entD; rw [e1 j hj]
    show totI (topsI (delAll r (delU i.pt T))) = _
    rw [delAll_tot r (delU_srt _ hs) hn.2 (fun j hj => by unfold hasI; rw [e1 j hj]; exact hh j (by simp [hj])), e2, delU_tot hs hg, List.map_cons, topsI_cons, totI_cons]
    omega
theorem foldPut_srt : ∀ (l : List En) {T : List En}, SrtE T → SrtE (l.foldl (fun T e => putU e T) T)
  | [], _, h => h
  | e :: r, _, h => foldPut_srt r (putU_srt e h)
theorem foldPut_tot : ∀ (l : List En) {T : List En}, SrtE T → (l.map En.pt).Nodup → (∀ e ∈ l, getU T e.pt = none) → totI (topsI (l.foldl (fun T e => putU e T) T)) = totI (topsI T) + totI (topsI l)
  | [], T, _, _, _ => by show totI (topsI T) = totI (topsI T) + 0; omega
  | e :: r, T, hs, hn, hh => by
    rw [List.map_cons, List.nodup_cons] at hn
    have hne : ∀ x ∈ r, x.pt ≠ e.pt := fun x hx q => hn.1 (by rw [← q]; exact List.mem_map_of_mem hx)
    show totI (topsI (r.foldl (fun T e => putU e T) (putU e T))) = _
    rw [foldPut_tot r (putU_srt e hs) hn.2 (fun x hx => by rw [getU_put_ne hs (hne x hx)]; exact hh x (by simp [hx])), putU_tot (hh e (by simp)), topsI_cons, totI_cons]
    omega
theorem foldPut_get : ∀ (l : List En) {T : List En} {q : Pt}, SrtE T → (∀ e ∈ l, e.pt ≠ q) → getU (l.foldl (fun T e => putU e T) T) q = getU T q
  | [], _, _, _, _ => rfl
  | e :: r, T, q, hs, hh => by
    show getU (r.foldl (fun T e => putU e T) (putU e T)) q = _
    rw [foldPut_get r (putU_srt e hs) (fun x hx => hh x (by simp [hx])), getU_put_ne hs (Ne.symm (hh e (by simp)))]
theorem foldPut_at : ∀ (l : List En) {T : List En}, SrtE T → (l.map En.pt).Nodup → ∀ e ∈ l, getU (l.foldl (fun T e => putU e T) T) e.pt = some e.o
  | [], _, _, _, _, h => by cases h
  | e :: r, T, hs, hn, x, hx => by
    rw [List.map_cons, List.nodup_cons] at hn
    rcases List.mem_cons.1 hx with rfl | hx
    · show getU (r.foldl (fun T e => putU e T) (putU x T)) x.pt = _
      rw [foldPut_get r (putU_srt x hs) (fun y hy q => hn.1 (by rw [← q]; exact List.mem_map_of_mem hy))]; exact getU_put_self x hs
    · exact foldPut_at r (putU_srt e hs) hn.2 x hx
theorem foldPut_mem : ∀ (l : List En) {T : List En} {x : En}, x ∈ l.foldl (fun T e => putU e T) T → x ∈ l ∨ x ∈ T
  | [], _, _, h => .inr h
  | e :: r, T, x, h => by
    rcases foldPut_mem r (T := putU e T) h with h | h
    · exact .inl (by simp [h])
    · rcases putU_mem h with rfl | h
      · exact .inl (by simp)
      · exact .inr h
theorem utN_at (id : ByteArray) (l : List Ou) (i : Nat) (h : i < l.length) : (⟨id, (i : Int), l[i]⟩ : En) ∈ utN id l := by
  unfold utN
  exact List.mem_mapIdx.2 ⟨i, h, rfl⟩
theorem utN_nodup (id : ByteArray) (l : List Ou) : ((utN id l).map En.pt).Nodup := by
  show ((l.mapIdx fun i o => (⟨id, (i : Int), o⟩ : En)).map En.pt).Nodup
  refine List.pairwise_map.2 (List.pairwise_iff_getElem.2 fun i j hi hj hij => ?_)
  rw [List.getElem_mapIdx, List.getElem_mapIdx]
  intro e
  have e2 : (i : Int) = (j : Int) := congrArg Prod.snd e
  omega
theorem utN_am (id : ByteArray) (l : List Ou) : topsI (utN id l) = ousI l := by
  apply List.ext_getElem?
  intro i
  unfold topsI utN ousI
  simp [List.getElem?_mapIdx]; rfl
section
variable {T : List En} {t : Txn} {h : Int}
theorem apply_srt (t : Txn) (hs : SrtE T) : SrtE (applyT T t) := foldPut_srt _ (delAll_srt _ hs)
theorem apply_in (hs : SrtE T) {i : Inp} (hi : i ∈ t.ins) (hne : i.tx ≠ idT t) : getU (applyT T t) i.pt = none := by
  unfold applyT putAll
  rw [foldPut_get _ (delAll_srt _ hs) (fun e he q => by
    obtain ⟨_, _, h1, _⟩ := utN_mem he
    exact hne ((congrArg Prod.fst q).symm.trans h1))]
  exact delAll_gone _ _ ⟨i, hi, rfl⟩
theorem apply_out (hs : SrtE T) (m : Nat) (hm : m < t.outs.length) : getU (applyT T t) (idT t, (m : Int)) = some t.outs[m] :=
  foldPut_at _ (delAll_srt _ hs) (utN_nodup _ _) _ (utN_at (idT t) t.outs m hm)
theorem sums_zero {L : List En} {outs : List Ou} (h : sumsE L outs = 0) : totI (ousI outs) + 10 = totI (topsI L) ∧ totI (topsI L) < 18446744073709551616 := by
  unfold sumsE at h
  unfold totE totV at h
  by_cases h1 : totI (topsI L) < 18446744073709551616
  · rw [if_pos h1, if_pos h1] at h
    by_cases h2 : totI (ousI outs) < 18446744073709551616
    · rw [if_pos h2, if_pos h2] at h
      unfold plusE plusV at h
      by_cases h3 : totI (ousI outs) + 10 < 18446744073709551616
      · rw [if_pos h3, if_pos h3] at h
        by_cases h4 : totI (ousI outs) + 10 = totI (topsI L)
        · exact ⟨h4, h1⟩
        · simp [h4] at h
      · simp [h3] at h
    · simp [h2] at h
  · simp [h1] at h
theorem check_parts (hc : checkE T t h = 0) : foundE T t = 0 ∧ firstE (mayL (spentT T t) t (coreX t) h) = 0 ∧ sumsE (spentT T t) t.outs = 0 ∧ claimsE ((spentT T t).headD zEn) t (totV (topsI (spentT T t))).toNat = 0 ∧ firstE (t.outs.map fun o => makesE T o h) = 0 := by
  unfold checkE at hc
  by_cases h1 : foundE T t ≠ 0
  · rw [if_pos h1] at hc; exact absurd hc h1
  rw [if_neg h1] at hc
  by_cases h2 : firstE (mayL (spentT T t) t (coreX t) h) ≠ 0
  · rw [if_pos h2] at hc; exact absurd hc h2
  rw [if_neg h2] at hc
  by_cases h3 : sumsE (spentT T t) t.outs ≠ 0
  · rw [if_pos h3] at hc; exact absurd hc h3
  rw [if_neg h3] at hc
  by_cases h4 : claimsE ((spentT T t).headD zEn) t (totV (topsI (spentT T t))).toNat ≠ 0
  · rw [if_pos h4] at hc; exact absurd hc h4
  rw [if_neg h4] at hc
  exact ⟨Decidable.not_not.1 h1, Decidable.not_not.1 h2, Decidable.not_not.1 h3, Decidable.not_not.1 h4, hc⟩
theorem apply_tot (hs : SrtE T) (hc : checkE T t h = 0) (hcl : ∀ m : Nat, m < 4 → getU T (idT t, (m : Int)) = none) : totI (topsI (applyT T t)) + 10 = totI (topsI T) := by
  obtain ⟨h1, _, h3, _, _⟩ := check_parts hc
  have hf := found_t h1
  have h4 := (sums_zero h3).1
  have h5 := delAll_tot t.ins hs hf.right.nodup hf.has
  unfold applyT putAll
  rw [foldPut_tot _ (delAll_srt _ hs) (utN_nodup _ _) (fun e he => ?_), utN_am, h5]
  · unfold spentT at h4; omega
  · obtain ⟨i, hi, h6, h7⟩ := utN_mem he
    have := hcl i (by have := hf.right.n2.2; omega)
    have e1 : e.pt = (idT t, (i : Int)) := Prod.ext h6 h7
    rw [e1]
    exact delAll_none _ this
theorem tok_apply (hT : TOk T) (hs : SrtE T) (ht : TxOk t) (hc : checkE T t h = 0) (hl : T.length ≤ 900) : TOk (applyT T t) := by
  obtain ⟨h1, _, _, _, _⟩ := check_parts hc
  have hf := found_t h1
  have hn := hf.right.n2
  have hid := (id_size hf.rt).1
  have hm : ∀ e ∈ applyT T t, e ∈ utN (idT t) t.outs ∨ e ∈ T := fun e he => (foldPut_mem _ he).imp id (delAll_sub _)
  have hu : ∀ e ∈ utN (idT t) t.outs, e.o ∈ t.outs ∧ e.okp := fun e he => by
    obtain ⟨i, hi, rfl⟩ := List.mem_mapIdx.1 (show e ∈ t.outs.mapIdx _ from he)
    exact ⟨List.getElem_mem hi, hid, by show (0 : Int) ≤ (i : Int); omega, by show (i : Int) < 256; omega⟩
  refine ⟨?_, ?_, fun e he => ?_, fun e he => ?_, fun e he => ?_, fun e he => ?_⟩
  · have a := putAll_len (idT t) t.outs (delAll t.ins T)
    have b := delAll_len t.ins T
    unfold applyT; omega
  · have a := apply_out hs 0 (show 0 < t.outs.length by omega)
    obtain ⟨e, he, _⟩ := getU_mem a
    exact List.length_pos_of_mem he
  · rcases hm e he with k | k
    · exact hf.right.outs _ (hu e k).1
    · exact hT.fits e k
  · rcases hm e he with k | k
    · exact (ht.out _ (hu e k).1).1
    · exact hT.am e k
  · rcases hm e he with k | k
    · exact (ht.out _ (hu e k).1).2
    · exact hT.unit e k
  · rcases hm e he with k | k
    · exact (hu e k).2
    · exact hT.tx e k
theorem apply_len (T : List En) (t : Txn) (hr : rightT t = true) : (applyT T t).length ≤ T.length + 4 := by
  have a := putAll_len (idT t) t.outs (delAll t.ins T)
  have b := delAll_len t.ins T
  have c := (right_t hr).n2
  unfold applyT; omega
end
end Go.Proofs.YtdoebmikjgmnaaaGreat
namespace Go.Proofs.YtdoebmikjgmnaaaGreat
open Go.RowKit Go.Maps
theorem cut_am {l : List Ou} (h : ∀ o ∈ l, o.am < 18446744073709551616 ∧ o.unit < 18446744073709551616) (k : Nat) : ∀ o ∈ (l.take k).map cutO, o.am < 18446744073709551616 ∧ o.unit < 18446744073709551616 := by
  intro o ho
  obtain ⟨x, hx, rfl⟩ := List.mem_map.1 ho
  exact h x (List.mem_of_mem_take hx)
theorem cut_len (l : List Ou) (k : Nat) : ((l.take k).map cutO).length ≤ k := by rw [List.length_map, List.length_take]; omega
theorem tok_new {l : List Ou} (hn : newU l = true) (h8 : l.length ≤ 8) (ha : ∀ o ∈ l, o.am < 18446744073709551616 ∧ o.unit < 18446744073709551616) : TOk (utN (firstB l) l) := by
  unfold newU at hn
  simp only [Bool.and_eq_true, decide_eq_true_eq, List.all_eq_true] at hn
  have hm : ∀ e ∈ utN (firstB l) l, e.o ∈ l ∧ e.okp := fun e he => by
    obtain ⟨i, hi, rfl⟩ := List.mem_mapIdx.1 (show e ∈ l.mapIdx _ from he)
    exact ⟨List.getElem_mem hi, tagB_size _ _, by show (0 : Int) ≤ (i : Int); omega, by show (i : Int) < 256; omega⟩
  exact ⟨by rw [utN_len]; omega, by rw [utN_len]; omega, fun e he => hn.2 _ (hm e he).1, fun e he => (ha _ (hm e he).1).1, fun e he => (ha _ (hm e he).1).2, fun e he => (hm e he).2⟩
/-- a transaction, cut -/
def cutX (t : Txn) (A : Option Addr) (c : Nat) (B : Option Addr) (d : Nat) (PA : Option Addr) (pc : Nat) : Txn :=
  ⟨A, (t.ins.take 6).map cutI, c, B, (t.outs.take 6).map cutO, d, ⟨t.p.am, cutT t.p.sig 450, cutT t.p.tok 40, PA, (t.p.l.take 6).map cutW, pc⟩⟩
theorem cutx_cs (t : Txn) (A : Option Addr) (k c : Nat) (B : Option Addr) (m d : Nat) (PA : Option Addr) (n pc : Nat) (hk : k = ((t.ins.take 6).map cutI).length) (hm : m = ((t.outs.take 6).map cutO).length) (hn : n = ((t.p.l.take 6).map cutW).length) :
    txK A k c B m d t.p.am (cutT t.p.sig 450) (cutT t.p.tok 40) PA n pc = (cutX t A c B d PA pc).cs := by subst hk hm hn; rfl
theorem cutx_ok {w : World} {t : Txn} (h : TxCame w t) (A : Option Addr) (c : Nat) (B : Option Addr) (d : Nat) (PA : Option Addr) (pc : Nat) : TxOk (cutX t A c B d PA pc) := by
  refine ⟨?_, ?_, ⟨?_, ?_, ?_, h.pf.am⟩, cut_am h.out 6⟩
  · show ((t.ins.take 6).map cutI).length ≤ 1000; rw [List.length_map, List.length_take]; omega
  · show ((t.outs.take 6).map cutO).length ≤ 1000; rw [List.length_map, List.length_take]; omega
  · show ((t.p.l.take 6).map cutW).length ≤ 1000; rw [List.length_map, List.length_take]; omega
  · intro x hx
    obtain ⟨y, hy, rfl⟩ := List.mem_map.1 (show x ∈ (t.p.l.take 6).map cutW from hx)
    obtain ⟨a, b, c, d, e, f⟩ := h.pf.fz y (List.mem_of_mem_take hy)
    exact ⟨a, b, c, d, e, f, by show (cutT y.salt 40).size ≤ _; rw [cutT_size]; have := (cutN_le y.salt 40).2; omega⟩
  · show (cutT t.p.sig 450).size ≤ 1000000; rw [cutT_size]; have := (cutN_le t.p.sig 450).2; omega
theorem incl_len4 (i : Inp) : i.cl.length = 4 := rfl
theorem wncl_len10 (x : Wn) : x.cl.length = 10 := rfl
theorem cutx_mem {w' : World} {b1 b2 b3 : Nat} (t : Txn) {A : Option Addr} {k c : Nat} {B : Option Addr} {m d : Nat} {PA : Option Addr} {n pc : Nat} (hk : k = ((t.ins.take 6).map cutI).length) (hm : m = ((t.outs.take 6).map cutO).length) (hn : n = ((t.p.l.take 6).map cutW).length)
    (h1 : w'.ownsRow b1 64 4 (.slice A k c) k (((t.ins.take 6).map cutI).flatMap Inp.cl)) (h2 : w'.ownsRow b2 41 9 (.slice B m d) m (((t.outs.take 6).map cutO).flatMap Ou.cl))
    (h3 : w'.ownsRow b3 180 10 (.slice PA n pc) n (((t.p.l.take 6).map cutW).flatMap Wn.cl)) : (cutX t A c B d PA pc).mem w' := by
  subst hk hm hn
  exact ⟨Sl.of_own incl_len4 h1, Sl.of_own ouLen9 h2, Sl.of_own wncl_len10 h3⟩
theorem utN_srtK (id : ByteArray) (l : List Ou) : SrtE (utN id l) := by
  show (l.mapIdx fun i o => (⟨id, (i : Int), o⟩ : En)).Pairwise _
  refine List.pairwise_iff_getElem.2 fun i j hi hj hij => ?_
  rw [List.getElem_mapIdx, List.getElem_mapIdx]
  show ltP (id, (i : Int)) (id, (j : Int)) = true
  unfold ltP
  simp; omega
theorem sl_chT {α : Type} {w w' : World} {k g : Nat} {en : α → List Value} {A : Option Addr} {l : List α} (h : Sl w w.heap.size k en A l) (hc : Ch [g] w w') (hne : ∀ a, A = some a → a.block ≠ g) : Sl w' w'.heap.size k en A l := fun hn => by
  obtain ⟨b, off, rfl, hlt, hcl⟩ := h hn
  have hb : b ≠ g := hne _ rfl
  refine ⟨b, off, rfl, Nat.lt_of_lt_of_le hlt hc.size, fun i x hx j u hu => ?_⟩
  rw [← hcl i x hx j u hu]
  unfold World.cell?
  rw [hc.block b hlt (by simpa using hb)]
theorem own_addr {w : World} {base k n c : Nat} {e : TypeId} {A : Option Addr} {xs : List Value} (h : w.ownsRow base e k (.slice A n c) n xs) : ∀ a, A = some a → base ≤ a.block := by
  intro a ha
  subst ha
  exact own_base h a.block rfl
/-- a transaction's lists do not lie in a block -/
def MemNe (t : Txn) (g : Nat) : Prop := (∀ a, t.A = some a → a.block ≠ g) ∧ (∀ a, t.B = some a → a.block ≠ g) ∧ (∀ a, t.p.A = some a → a.block ≠ g)
theorem mem_chT {t : Txn} {w w' : World} {g : Nat} (h : t.mem w) (hc : Ch [g] w w') (hn : MemNe t g) : t.mem w' := ⟨sl_chT h.ins hc hn.1, sl_chT h.outs hc hn.2.1, sl_chT h.wins hc hn.2.2⟩
theorem mem_ne (t : Txn) {w w' : World} {g : Nat} {A : Option Addr} {k : Nat} (c : Nat) {B : Option Addr} {m : Nat} (d : Nat) {PA : Option Addr} {n : Nat} (pc : Nat) (hg : g < w.heap.size) {x1 x2 x3 : List Value}
    (h1 : w'.ownsRow w.heap.size 64 4 (.slice A k c) k x1) (h2 : w'.ownsRow w.heap.size 41 9 (.slice B m d) m x2) (h3 : w'.ownsRow w.heap.size 180 10 (.slice PA n pc) n x3) : MemNe (cutX t A c B d PA pc) g :=
  ⟨fun a ha => by have := own_addr h1 a ha; omega, fun a ha => by have := own_addr h2 a ha; omega, fun a ha => by have := own_addr h3 a ha; omega⟩
end Go.Proofs.YtdoebmikjgmnaaaGreat
namespace Go.Proofs.YtdoebmikjgmnaaaGreat
open Go.RowKit Go.Maps
theorem bless_ltBz : ∀ a b : List UInt8, Op.bytesLess a b = ltB a b
  | [], [] => rfl
  | _ :: _, [] => rfl
  | [], _ :: _ => rfl
  | a :: r, b :: s => by
    unfold ltB Op.bytesLess
    by_cases h1 : a < b
    · simp [h1]
    · by_cases h2 : b < a
      · rw [if_neg h1, if_pos h2]
        have : (a == b) = false := beq_eq_false_iff_ne.2 (fun e => by subst e; exact h1 h2)
        simp [h1, this]
      · rw [if_neg h1, if_neg h2, ← bless_ltBz r s]
        have e := u8_eq h1 h2
        subst e
        simp [UInt8.lt_irrefl]
theorem bytesLess_ltBz (s t : ByteArray) : Op.bytesLess s.toList t.toList = ltB s.data.toList t.data.toList := by
  rw [Lib.toList_data, Lib.toList_data]
  exact bless_ltBz _ _
/-- == or != of structs -/
theorem wpList_eq_agg {ops : Array Oper} {rest : List Oper} {o : Oper} {a : Act} {w : World} {Q : Exit → Act → World → Prop} (hw : Region.wanted o (yielded ops a.tmps) = true) (op : BinOp) (ty : TypeId) (x y : Operand) {n} (ho : o.op = .binOp op ty x y n) (xs ys : Array Value) (hx : a.eval x = .agg xs) (hy : a.eval y = .agg ys) (r : Bool)
    (hg : ∀ W, (eqGuard op ty x y (.agg xs) (.agg ys)).run Tryz.prog W = .ok () W) (hb : ∀ W, (binOp op ty (.agg xs) (.agg ys)).run Tryz.prog W = .ok (.bool r) W) (h : wpList Tryz.prog ops Q rest (a.put o.dst (.bool r)) w) : wpList Tryz.prog ops Q (o :: rest) a w := by
  refine wpList_step fun K hK => ?_
  rw [if_pos hw]
  unfold Oper.wp execOp
  simp only [ho, hx, hy, Sem.run_bind, hg, hb, Result.andThen_ok]
  exact hK _ _ h
/-- a struct in the midst of a row is read, guarded or not -/
theorem wpList_load_rowGz {ops : Array Oper} {rest : List Oper} {o : Oper} {a : Act} {w : World} {Q : Exit → Act → World → Prop} (hw : Region.wanted o (yielded ops a.tmps) = true) (ty : TypeId) (x : Operand) (ho : o.op = .load ty x)
    (b off : Nat) {fs : Array Field} (cl : List Value) (hc : ∀ j u, cl[j]? = some u → w.cell? ⟨b, off + j, none⟩ = some u) (part : Array Value) (hx : a.eval x = .pointer (some ⟨b, off, none⟩)) (hp : cl.toArray = part)
    (hu : Tryz.prog.underlying ty = some (.struct fs)) (hi : (Tryz.prog.info? ty).map (·.size) = some cl.length) (h : wpList Tryz.prog ops Q rest (a.put o.dst (.agg part)) w) : wpList Tryz.prog ops Q (o :: rest) a w := by
  subst hp
  refine wpList_step fun K hK => ?_
  rw [if_pos hw]
  exact wp_load_mid ty x ho b off hx cl _ hc hu rfl hi (hK _ _ h)
theorem quiet_eqop {o : Oper} {a : Act} {C : World → Prop} {K : Act → Prop} (op : BinOp) (ty : TypeId) (x y : Operand) {n} (ho : o.op = .binOp op ty x y n) (xs ys : Array Value) (hx : a.eval x = .agg xs) (hy : a.eval y = .agg ys) (r : Bool)
    (hg : ∀ W, (eqGuard op ty x y (.agg xs) (.agg ys)).run Tryz.prog W = .ok () W) (hb : ∀ W, (binOp op ty (.agg xs) (.agg ys)).run Tryz.prog W = .ok (.bool r) W) (hK : K (a.put o.dst (.bool r))) : o.quiet Tryz.prog a C K := by
  refine ⟨.bool r, ?_, hK⟩
  intro W hW
  unfold Oper.quietAt execOp
  simp only [ho, hx, hy, Sem.run_bind, hg, hb, Result.andThen_ok]
  unfold Oper.quietUpon
  exact ⟨rfl, rfl⟩
theorem eqGuardN (W : World) (op : BinOp) (ty : TypeId) (x y : Operand) (xs ys : Array Value) (h : Tryz.prog.eqGuardType Tryz.prog.depth ty = false) : (eqGuard op ty x y (.agg xs) (.agg ys)).run Tryz.prog W = .ok () W :=
  run_eqGuard_agg W op ty x y xs ys h
theorem ouNeq_self (W : World) (a : Ou) : (binOp .neq 41 (.agg a.cs) (.agg a.cs)).run Tryz.prog W = .ok (.bool false) W := by
  have h2 := ouEqIn W 9998 a a
  rw [(eqOu_iff a a).2 rfl] at h2
  rw [run_neq_struct, h2]; rfl
set_option maxRecDepth 100000 in
set_option maxHeartbeats 1000000 in
theorem enNeq_self (W : World) (x : En) : (binOp .neq 43 (.agg x.cs) (.agg x.cs)).run Tryz.prog W = .ok (.bool false) W := by
  have h1 := ptEqIn W 9997 x.tx x.tx x.out x.out
  have h2 := ouEqIn W 9997 x.o x.o
  rw [(eqOu_iff x.o x.o).2 rfl] at h2
  simp only [Ou.cs] at h2
  simp only [decide_true, Bool.and_true] at h1
  have ho : (Op.equalIn 10000 43 (.agg #[.string (x).tx, .int .i64 (x).out, .int .i64 (x).o.kind, .int .u64 ((x).o.am : Nat), .string (x).o.key, .string (x).o.gate, .int .i64 (x).o.ex, .string (x).o.anchor, .int .u64 ((x).o.unit : Nat), .int .i64 (x).o.tok, .string (x).o.of_]) (.agg #[.string (x).tx, .int .i64 (x).out, .int .i64 (x).o.kind, .int .u64 ((x).o.am : Nat), .string (x).o.key, .string (x).o.gate, .int .i64 (x).o.ex, .string (x).o.anchor, .int .u64 ((x).o.unit : Nat), .int .i64 (x).o.tok, .string (x).o.of_])).run Tryz.prog W = .ok true W := by
    refine (run_equalIn_struct (P := Tryz.prog) W 9999 43 _ _ (by kernel_rfl) (by kernel_rfl)).trans ?_
    simp [Program.fieldsOf, Tryz.underlying43, Op.eqFields, go_sem, h1, h2]
  show (binOp .neq 43 (.agg #[.string (x).tx, .int .i64 (x).out, .int .i64 (x).o.kind, .int .u64 ((x).o.am : Nat), .string (x).o.key, .string (x).o.gate, .int .i64 (x).o.ex, .string (x).o.anchor, .int .u64 ((x).o.unit : Nat), .int .i64 (x).o.tok, .string (x).o.of_]) (.agg #[.string (x).tx, .int .i64 (x).out, .int .i64 (x).o.kind, .int .u64 ((x).o.am : Nat), .string (x).o.key, .string (x).o.gate, .int .i64 (x).o.ex, .string (x).o.anchor, .int .u64 ((x).o.unit : Nat), .int .i64 (x).o.tok, .string (x).o.of_])).run Tryz.prog W = _
  rw [run_neq_struct, ho]; rfl
end Go.Proofs.YtdoebmikjgmnaaaGreat
