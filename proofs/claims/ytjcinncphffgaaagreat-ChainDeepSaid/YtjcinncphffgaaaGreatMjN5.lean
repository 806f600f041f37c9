/- utxo: what applying a transaction makes of the outputs, and of their total. Operations of a plain region that are guarded, or on structs; texts' order as the walk has it. -/
import Derived.Laws.StructEq
import Derived.Test.YtjcinncphffgaaaGreatMjClmA
import Derived.Test.YtjcinncphffgaaaGreatMjEqE
import Derived.Test.YtjcinncphffgaaaGreatMjNum
set_option linter.unusedVariables false
set_option linter.unusedSimpArgs false
namespace Go.Proofs.YtjcinncphffgaaaGreat
open Go.RowKit Go.Maps
theorem getU_put_self (e : En) {T : List En} (hs : SrtE T) : getU (putU e T) e.pt = some e.o := getU_of_mem (putU_srt e hs) ((insE_perm e _).mem_iff.2 (by simp))
theorem getU_put_ne {e : En} {T : List En} (hs : SrtE T) {q : Pt} (h : q ≠ e.pt) : getU (putU e T) q = getU T q := by
  cases h1 : getU T q with
  | some o =>
    obtain ⟨x, hx, rfl, rfl⟩ := getU_mem h1
    have hm : x ∈ putU e T := (insE_perm e _).mem_iff.2 (List.mem_cons.2 (.inr (List.mem_filter.2 ⟨hx, by simpa using h⟩)))
    exact getU_of_mem (putU_srt e hs) hm
  | none =>
    cases h2 : getU (putU e T) q with
    | none => rfl
    | some o =>
      obtain ⟨x, hx, rfl, rfl⟩ := getU_mem h2
      rcases putU_mem hx with rfl | hx
      · exact absurd rfl h
      · rw [getU_of_mem hs hx] at h1; cases h1
theorem delAll_srt : ∀ (l : List Inp) {T : List En}, SrtE T → SrtE (delAll l T)
  | [], _, h => h
  | i :: r, _, h => delAll_srt r (delU_srt i.pt h)
theorem delAll_sub : ∀ (l : List Inp) {T : List En} {e : En}, e ∈ delAll l T → e ∈ T
  | [], _, _, h => h
  | i :: r, T, e, h => (List.mem_filter.1 (delAll_sub r (T := delU i.pt T) h)).1
theorem foldPut_srt : ∀ (l : List En) {T : List En}, SrtE T → SrtE (l.foldl (fun T e => putU e T) T)
  | [], _, h => h
  | e :: r, _, h => foldPut_srt r (putU_srt e h)
theorem foldPut_get : ∀ (l : List En) {T : List En} {q : Pt}, SrtE T → (∀ e ∈ l, e.pt ≠ q) → getU (l.foldl (fun T e => putU e T) T) q = getU T q
  | [], _, _, _, _ => rfl
  | e :: r, T, q, hs, hh => by
    show getU (r.foldl (fun T e => putU e T) (putU e T)) q = _
    rw [foldPut_get r (putU_srt e hs) (fun x hx => hh x (by simp [hx])), getU_put_ne hs (Ne.symm (hh e (by simp)))]
theorem foldPut_at : ∀ (l : List En) {T : List En}, SrtE T → (l.map En.pt).Nodup → ∀ e ∈ l, getU (l.foldl (fun T e => putU e T) T) e.pt = some e.o
  | [], _, _, _, _, h => by cases h
  | e :: r, T, hs, hn, x, hx => by
    rw [List.map_cons, List.nodup_cons] at hn
    rcases List.mem_cons.1 hx with rfl | hx
    · show getU (r.foldl (fun T e => putU e T) (putU x T)) x.pt = _
      rw [foldPut_get r (putU_srt x hs) (fun y hy q => hn.1 (by rw [← q]; exact List.mem_map_of_mem hy))]; exact getU_put_self x hs
    · exact foldPut_at r (putU_srt e hs) hn.2 x hx
theorem foldPut_mem : ∀ (l : List En) {T : List En} {x : En}, x ∈ l.foldl (fun T e => putU e T) T → x ∈ l ∨ x ∈ T
  | [], _, _, h => .inr h
  | e :: r, T, x, h => by
    rcases foldPut_mem r (T := putU e T) h with h | h
    · exact .inl (by simp [h])
    · rcases putU_mem h with rfl | h
      · exact .inl (by simp)
      · exact .inr h
theorem utN_at (id : ByteArray) (l : List Ou) (i : Nat) (h : i < l.length) : (⟨id, (i : Int), l[i]⟩ : En) ∈ utN id l := by
  unfold utN
  exact List.mem_mapIdx.2 ⟨i, h, rfl⟩
theorem utN_nodup (id : ByteArray) (l : List Ou) : ((utN id l).map En.pt).Nodup := by
  show ((l.mapIdx fun i o => (⟨id, (i : Int), o⟩ : En)).map En.pt).Nodup
  refine List.pairwise_map.2 (List.pairwise_iff_getElem.2 fun i j hi hj hij => ?_)
  rw [List.getElem_mapIdx, List.getElem_mapIdx]
  intro e
  have e2 : (i : Int) = (j : Int) := congrArg Prod.snd e
  omega
section
variable {T : List En} {t : Txn} {h : Int}
theorem apply_srt (t : Txn) (hs : SrtE T) : SrtE (applyT T t) := foldPut_srt _ (delAll_srt _ hs)
theorem apply_out (hs : SrtE T) (m : Nat) (hm : m < t.outs.length) : getU (applyT T t) (idT t, (m : Int)) = some t.outs[m] :=
  foldPut_at _ (delAll_srt _ hs) (utN_nodup _ _) _ (utN_at (idT t) t.outs m hm)
theorem check_parts (hc : checkE T t h = 0) : foundE T t = 0 ∧ firstE (mayL (spentT T t) t (coreX t) h) = 0 ∧ sumsE (spentT T t) t.outs = 0 ∧ claimsE ((spentT T t).headD zEn) t (totV (topsI (spentT T t))).toNat = 0 ∧ firstE (t.outs.map fun o => makesE T o h) = 0 := by
  unfold checkE at hc
  by_cases h1 : foundE T t ≠ 0
  · rw [if_pos h1] at hc; exact absurd hc h1
  rw [if_neg h1] at hc
  by_cases h2 : firstE (mayL (spentT T t) t (coreX t) h) ≠ 0
  · rw [if_pos h2] at hc; exact absurd hc h2
  rw [if_neg h2] at hc
  by_cases h3 : sumsE (spentT T t) t.outs ≠ 0
  · rw [if_pos h3] at hc; exact absurd hc h3
  rw [if_neg h3] at hc
  by_cases h4 : claimsE ((spentT T t).headD zEn) t (totV (topsI (spentT T t))).toNat ≠ 0
  · rw [if_pos h4] at hc; exact absurd hc h4
  rw [if_neg h4] at hc
  exact ⟨Decidable.not_not.1 h1, Decidable.not_not.1 h2, Decidable.not_not.1 h3, Decidable.not_not.1 h4, hc⟩
theorem tok_apply (hT : TOk T) (hs : SrtE T) (ht : TxOk t) (hc : checkE T t h = 0) (hl : T.length ≤ 900) : TOk (applyT T t) := by
  obtain ⟨h1, _, _, _, _⟩ := check_parts hc
  have hf := found_t h1
  have hn := hf.right.n2
  have hid := (id_size hf.rt).1
  have hm : ∀ e ∈ applyT T t, e ∈ utN (idT t) t.outs ∨ e ∈ T := fun e he => (foldPut_mem _ he).imp id (delAll_sub _)
  have hu : ∀ e ∈ utN (idT t) t.outs, e.o ∈ t.outs ∧ e.okp := fun e he => by
    obtain ⟨i, hi, rfl⟩ := List.mem_mapIdx.1 (show e ∈ t.outs.mapIdx _ from he)
    exact ⟨List.getElem_mem hi, hid, by show (0 : Int) ≤ (i : Int); omega, by show (i : Int) < 256; omega⟩
  refine ⟨?_, ?_, fun e he => ?_, fun e he => ?_, fun e he => ?_, fun e he => ?_⟩
  · have a := putAll_len (idT t) t.outs (delAll t.ins T)
    have b := delAll_len t.ins T
    unfold applyT; omega
  · have a := apply_out hs 0 (show 0 < t.outs.length by omega)
    obtain ⟨e, he, _⟩ := getU_mem a
    exact List.length_pos_of_mem he
  · rcases hm e he with k | k
    · exact hf.right.outs _ (hu e k).1
    · exact hT.fits e k
  · rcases hm e he with k | k
    · exact (ht.out _ (hu e k).1).1
    · exact hT.am e k
  · rcases hm e he with k | k
    · exact (ht.out _ (hu e k).1).2
    · exact hT.unit e k
  · rcases hm e he with k | k
    · exact (hu e k).2
    · exact hT.tx e k
theorem apply_len (T : List En) (t : Txn) (hr : rightT t = true) : (applyT T t).length ≤ T.length + 4 := by
  have a := putAll_len (idT t) t.outs (delAll t.ins T)
  have b := delAll_len t.ins T
  have c := (right_t hr).n2
  unfold applyT; omega
end
end Go.Proofs.YtjcinncphffgaaaGreat
namespace Go.Proofs.YtjcinncphffgaaaGreat
open Go.RowKit Go.Maps
end Go.Proofs.YtjcinncphffgaaaGreat
