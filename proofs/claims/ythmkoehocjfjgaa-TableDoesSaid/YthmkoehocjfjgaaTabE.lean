/- table.PutRec, DelRec; the reference's writer, PutRec, DelRec. -/
import Derived.Test.YthmkoehocjfjgaaTabD

namespace Go.Proofs.Ythmkoehocjfjgaa
open Go.RowKit Go.Maps Go.WideMaps

theorem sl_strs {w : World} {g : Nat} {t : TypeId} {l : List ByteArray} (h : Blk w g t (l.map Value.string).toArray) : Sl w w.heap.size 1 strC (some ⟨g, 0, none⟩) l := fun _ =>
  ⟨g, 0, rfl, h.lt, fun i x hx j u hu => by
    have hj : j = 0 := by
      rcases Nat.eq_zero_or_pos j with e | e
      · exact e
      · simp [strC, List.getElem?_cons] at hu; omega
    subst hj
    simp [strC] at hu
    subst hu
    rw [h.cell]
    simp [hx]⟩
def putRecB (k v : ByteArray) : ByteArray := if mayB k v then recTo 80 [k, v] else ByteArray.empty
def delRecB (k : ByteArray) : ByteArray := if mayB k ByteArray.empty then recTo 68 [k] else ByteArray.empty
theorem mayB_bd {k v : ByteArray} (h : mayB k v = true) : 1 ≤ k.size ∧ k.size ≤ 64 ∧ v.size ≤ 2048 := by
  rw [mayB_eq] at h
  simp at h
  exact ⟨h.1.1, h.1.2, h.2⟩
set_option maxRecDepth 100000 in
set_option maxHeartbeats 400000 in
theorem putRec_any (k v : ByteArray) (w : World) (hk : k.size ≤ maxLen) (hv : v.size ≤ maxLen) :
    Calls Try.prog 10 #[.string k, .string v] w fun e w' => e = .returned (.string (putRecB k v)) ∧ Below w.heap.size w w' := by
  have HP : Hid (putRecB k v = if mayB k v then recTo 80 [k, v] else ByteArray.empty) := rfl
  generalize putRecB k v = pr at HP ⊢
  cases hm : mayB k v with
  | false =>
    have HM := Lib.hid hm
    clear hm
    go_enter Try.func10, Try.ntmps10
    go_wp2_with (go_at_call 32; refine (may_v k v false _ hk hv HM.out).mono ?_; rintro e w' ⟨rfl, rfl⟩)
    go_ret
    exact ⟨by rw [HP.out, HM.out]; rfl, Below.refl _ _⟩
  | true =>
    have HM := Lib.hid hm
    have hb := mayB_bd hm
    obtain ⟨b1, b2, b3⟩ := hb
    clear hm
    go_enter Try.func10, Try.ntmps10
    go_wp2_with (go_at_call 32; refine (may_v k v true _ hk hv HM.out).mono ?_; rintro e w' ⟨rfl, rfl⟩)
    refine (rec_any 80 (some ⟨w.heap.size, 0, none⟩) [k, v] 2 _ (by omega) (by omega) (by simp) (by simp; omega) (sl_strs (l := [k, v]) (Blk.new w _ _))).mono ?_
    rintro e w1 ⟨rfl, hb1⟩
    have HB := Lib.hid (((Below.refl _ _).alloc (Nat.le_refl _) _).trans (hb1.mono (by simp)))
    clear hb1
    go_wp2_with fail
    go_ret
    exact ⟨by rw [HP.out, HM.out]; rfl, HB.out⟩
set_option maxRecDepth 100000 in
set_option maxHeartbeats 400000 in
theorem delRec_any (k : ByteArray) (w : World) (hk : k.size ≤ maxLen) :
    Calls Try.prog 11 #[.string k] w fun e w' => e = .returned (.string (delRecB k)) ∧ Below w.heap.size w w' := by
  have HP : Hid (delRecB k = if mayB k ByteArray.empty then recTo 68 [k] else ByteArray.empty) := rfl
  generalize delRecB k = pr at HP ⊢
  cases hm : mayB k ByteArray.empty with
  | false =>
    have HM := Lib.hid hm
    clear hm
    go_enter Try.func11, Try.ntmps11
    go_wp2_with (go_at_call 32; refine (may_v k ByteArray.empty false _ hk (by simp) HM.out).mono ?_; rintro e w' ⟨rfl, rfl⟩)
    go_ret
    exact ⟨by rw [HP.out, HM.out]; rfl, Below.refl _ _⟩
  | true =>
    have HM := Lib.hid hm
    have hb := mayB_bd hm
    obtain ⟨b1, b2, b3⟩ := hb
    clear hm
    go_enter Try.func11, Try.ntmps11
    go_wp2_with (go_at_call 32; refine (may_v k ByteArray.empty true _ hk (by simp) HM.out).mono ?_; rintro e w' ⟨rfl, rfl⟩)
    refine (rec_any 68 (some ⟨w.heap.size, 0, none⟩) [k] 1 _ (by omega) (by omega) (by simp) (by simp; omega) (sl_strs (l := [k]) (Blk.new w _ _))).mono ?_
    rintro e w1 ⟨rfl, hb1⟩
    have HB := Lib.hid (((Below.refl _ _).alloc (Nat.le_refl _) _).trans (hb1.mono (by simp)))
    clear hb1
    go_wp2_with fail
    go_ret
    exact ⟨by rw [HP.out, HM.out]; rfl, HB.out⟩
end Go.Proofs.Ythmkoehocjfjgaa
