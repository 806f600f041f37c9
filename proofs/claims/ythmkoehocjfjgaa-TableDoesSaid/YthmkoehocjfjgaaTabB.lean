/- table.Table: Put, Del. -/
import Derived.Test.YthmkoehocjfjgaaTabA

namespace Go.Proofs.Ythmkoehocjfjgaa
open Go.RowKit Go.Maps Go.WideMaps

theorem may_v (k v : ByteArray) (b : Bool) (w : World) (hk : k.size ≤ maxLen) (hv : v.size ≤ maxLen) (hb : mayB k v = b) : Calls Try.prog 32 #[.string k, .string v] w fun e w' => e = .returned (.bool b) ∧ w = w' := by
  have := may_any k v w hk hv; rwa [hb] at this
theorem Mp.drewN {w : World} {b : Nat} {T : List KV} (h : Mp w b T) (n : Nat) : Mp (w.drewN n) b T := h
theorem putR_of {most : Int} {k v : ByteArray} {T : List KV} (h : putE most k v T ≠ 0) : putR most k v T = T := by rw [putR, if_neg h]
theorem putR_ok {most : Int} {k v : ByteArray} {T : List KV} (h : putE most k v T = 0) : putR most k v T = putT k v T := by rw [putR, if_pos h]

theorem put_end {tb mb : Nat} {most : Int} {T : List KV} {k v : ByteArray} {w w1 : World} (h : TabAt w tb mb most T) (hs : Srt T) (n : Nat) (hown : w1.ownsMap Try.prog 9 elS mb (T.length + 1) ((dm T).put (kLit k) (vLit v)))
    (hg : (w.drewN n).grownBy w1 (some mb)) : TabAt w1 tb mb most (putT k v T) ∧ Ch [mb] w w1 := by
  have hc : Ch [mb] w w1 := (Ch.drewN [mb] w n).trans (Ch.of_grown hg)
  rw [dm_put hs] at hown
  exact ⟨⟨h.1.ch hc (by simp [h.ne_.symm]), Mp.tight hown⟩, hc⟩
set_option maxHeartbeats 400000 in
theorem put_any (tb mb : Nat) (most : Int) (T : List KV) (k v : ByteArray) (w : World) (hk : k.size ≤ maxLen) (hv : v.size ≤ maxLen) (hT : T.length ≤ 1000) (hs : Srt T) (h : TabAt w tb mb most T) :
    Calls Try.prog 14 #[.pointer (some ⟨tb, 0, none⟩), .string k, .string v] w fun e w' => e = .returned (.int .i64 (putE most k v T)) ∧ TabAt w' tb mb most (putR most k v T) ∧ Ch [mb] w w' := by
  have c0 : w.cell? ⟨tb, 0, none⟩ = some (.map (some mb)) := h.1.cell 0
  have c1 : w.cell? ⟨tb, 1, none⟩ = some (.int .i64 most) := h.1.cell 1
  have hl := h.2.look k hk
  have hn : ∀ nq, (Builtin.len_ #[60] 3 #[.map (some mb)]).run Try.prog (w.drewN nq) = .ok (.int .i64 (T.length : Int)) (w.drewN nq) := fun nq => Mp.len (w := w.drewN nq) h.2
  have H := Lib.hid h
  have HS := Lib.hid hs
  clear h hs
  cases hm : mayB k v with
  | false =>
    have he : putE most k v T = 1 := by rw [putE, if_pos hm]
    rw [putR_of (by rw [he]; decide), he]
    have HM := Lib.hid hm
    clear hm he
    go_enter Try.func14, Try.ntmps14
    go_wp2_with (go_at_call 32; refine (may_v k v false _ hk hv HM.out).mono ?_; rintro e w' ⟨rfl, rfl⟩)
    go_ret
    exact ⟨rfl, H.out, Ch.refl _ _⟩
  | true =>
    have HM := Lib.hid hm
    cases hg : getT k T with
    | none =>
      rw [hg] at hl
      simp at hl
      by_cases hf : most ≤ T.length
      · have he : putE most k v T = 9 := by rw [putE, if_neg (by rw [hm]; decide), if_pos ⟨by rw [hg]; rfl, hf⟩]
        rw [putR_of (by rw [he]; decide), he]
        clear hm he hg
        go_enter Try.func14, Try.ntmps14
        go_wp2_with (go_at_call 32; refine (may_v k v true _ hk hv HM.out).mono ?_; rintro e w' ⟨rfl, rfl⟩)
        go_quiet (fail)
        go_wp2
        go_ret
        exact ⟨rfl, H.out.ch (Ch.drewN [] _ _) (by simp) (by simp), Ch.drewN _ _ _⟩
      · have he : putE most k v T = 0 := by rw [putE, if_neg (by rw [hm]; decide), if_neg (fun e => hf e.2)]
        rw [putR_ok he, he]
        have hf' : decide (most ≤ (T.length : Int)) = false := decide_eq_false hf
        clear hm he hg hf
        go_enter Try.func14, Try.ntmps14
        go_wp2_with (go_at_call 32; refine (may_v k v true _ hk hv HM.out).mono ?_; rintro e w' ⟨rfl, rfl⟩)
        go_quiet (fail)
        go_wp2_with (at_mapUpdate; refine wpList_mapUpdate_own _ rfl _ _ _ 60 rfl 9 9 lawS Try.underlying60 _ mb T.length _ rfl (Mp.drewN H.out.2 _) (by unfold maxLen; omega) _ _ _ rfl rfl (keyS hk) _ [] (elS_mk hv) ?_; intro w1 hown1 hgrow1)
        go_ret
        refine ⟨rfl, ?_⟩
        exact put_end H.out HS.out nq hown1 hgrow1
    | some x =>
      rw [hg] at hl
      simp at hl
      have he : putE most k v T = 0 := by rw [putE, if_neg (by rw [hm]; decide), if_neg (fun e => by rw [hg] at e; simp at e)]
      rw [putR_ok he, he]
      clear hm he hg
      go_enter Try.func14, Try.ntmps14
      go_wp2_with (go_at_call 32; refine (may_v k v true _ hk hv HM.out).mono ?_; rintro e w' ⟨rfl, rfl⟩)
      go_quiet (fail)
      go_wp2_with (at_mapUpdate; refine wpList_mapUpdate_own _ rfl _ _ _ 60 rfl 9 9 lawS Try.underlying60 _ mb T.length _ rfl (Mp.drewN H.out.2 _) (by unfold maxLen; omega) _ _ _ rfl rfl (keyS hk) _ [] (elS_mk hv) ?_; intro w1 hown1 hgrow1)
      go_ret
      refine ⟨rfl, ?_⟩
      exact put_end H.out HS.out nq hown1 hgrow1
set_option maxHeartbeats 400000 in
theorem del_any (tb mb : Nat) (most : Int) (T : List KV) (k : ByteArray) (w : World) (hk : k.size ≤ maxLen) (h : TabAt w tb mb most T) :
    Calls Try.prog 16 #[.pointer (some ⟨tb, 0, none⟩), .string k] w fun e w' => e = .returned (.int .i64 (delE k T)) ∧ TabAt w' tb mb most (delT k T) ∧ Ch [mb] w w' := by
  have c0 : w.cell? ⟨tb, 0, none⟩ = some (.map (some mb)) := h.1.cell 0
  have hl := h.2.look k hk
  have H := Lib.hid h
  cases hg : getT k T with
  | none =>
    have he : delE k T = 6 := by rw [delE, hg]; rfl
    have hd : delT k T = T := by
      unfold delT
      rw [List.filter_eq_self]
      intro p hp
      simp [getT_none.1 hg p hp]
    rw [he, hd]
    rw [hg] at hl
    simp at hl
    clear hg he hd h
    go_enter Try.func16, Try.ntmps16
    go_wp2
    go_ret
    exact ⟨rfl, H.out, Ch.refl _ _⟩
  | some x =>
    have he : delE k T = 0 := by rw [delE, hg]; rfl
    rw [he]
    rw [hg] at hl
    simp at hl
    clear hg he h
    go_enter Try.func16, Try.ntmps16
    go_wp2_with (at_delete; refine wpList_delete_own _ rfl _ _ 60 9 rfl 9 lawS Try.underlying60 _ mb T.length _ rfl H.out.2 _ _ rfl (keyS hk) ?_; intro w1 hown1 hturn1)
    go_ret
    rw [dm_del] at hown1
    have hc : Ch [mb] w w1 := Ch.of_grown hturn1.grown
    exact ⟨rfl, ⟨H.out.1.ch hc (by simp [H.out.ne_.symm]), Mp.tight hown1⟩, hc⟩
end Go.Proofs.Ythmkoehocjfjgaa
