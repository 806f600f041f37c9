/- TableMakes: the records; the walk. -/
import Derived.Test.YthmkoehocjfjgaaTabO

namespace Go.Proofs.Ythmkoehocjfjgaa
open Go.RowKit Go.Maps Go.WideMaps Go.Sort Go.Shelf

theorem infoS : (Try.prog.info? 9).map (fun i => (i.zero, i.size, i.bytes)) = some (some (.string ByteArray.empty), 1, 16) := by kernel_rfl
def recsOf (T : List KV) : List ByteArray := T.map fun p => putRecB p.1 p.2
theorem recsOf_snoc {T : List KV} {k : Nat} (hk : k < T.length) : recsOf (T.take (k + 1)) = recsOf (T.take k) ++ [putRecB (T[k]).1 (T[k]).2] := by
  unfold recsOf
  rw [List.take_succ_eq_append_getElem hk, List.map_append]; rfl
theorem one_s (s : ByteArray) : ∀ u ∈ [Value.string s], u.oneCell' = true := by intro u hu; simp at hu; subst hu; rfl
theorem flat_strC (l : List ByteArray) : l.flatMap strC = l.map Value.string := by
  induction l with
  | nil => rfl
  | cons x r ih => rw [List.flatMap_cons, ih]; rfl
set_option maxRecDepth 100000 in
set_option maxHeartbeats 4000000 in
theorem recs_any (tb mb : Nat) (most : Int) (T : List KV) (w : World) (hT : T.length ≤ 1000) (hs : Srt T) (hok : ∀ p ∈ T, p.1.size ≤ maxLen ∧ p.2.size ≤ maxLen) (h : TabAt w tb mb most T) :
    Calls Try.prog 24 #[.pointer (some ⟨tb, 0, none⟩)] w fun e w' => ∃ A c, e = .returned (.slice A T.length c) ∧ w'.ownsRow w.heap.size 9 1 (.slice A T.length c) T.length ((recsOf T).map Value.string) ∧ Below w.heap.size w w' := by
  obtain ⟨i0, hi, hz0, hz1, hz2⟩ := info_parts infoS
  have Hz := Lib.hid hz0
  have H := Lib.hid h
  have HS := Lib.hid hs
  have HOK := Lib.hid hok
  clear hz0 h hs hok
  go_enter Try.func24, Try.ntmps24
  go_wp2_with fail
  refine (trows_c tb mb most T T ⟨#[]⟩ _ hT HS.out (fun p hp => (HOK.out p hp).1) H.out (rowsFrom_all T)).mono ?_
  rintro e w1 ⟨A1, c1, rfl, ho1, hb1⟩
  have hz1w := hb1.size
  have S1 := Lib.hid (Sl.of_own rowC_len ho1)
  have HB1 := Lib.hid hb1
  clear ho1 hb1
  go_wp2_with fail
  go_loopw [3, 5, 9] (fun v _ i wr => ∃ k : Nat, k ≤ T.length ∧ i = .int .i64 k ∧ wr.ownsRow w1.heap.size 9 1 v k ((recsOf (T.take k)).map Value.string) ∧ Hid (Below w1.heap.size w1 wr)) (fun _ _ i _ => T.length - (intOf i).toNat)
  case atStart => exact ⟨0, Nat.zero_le _, rfl, ⟨by simp [recsOf], .inl ⟨rfl, by simp⟩⟩, Below.refl _ _⟩
  case round =>
    obtain ⟨k, hk, rfl, hown, HB⟩ := hrel
    have hB := HB.out.size
    by_cases hlt : k < T.length
    · obtain ⟨b, off, rfl, hbB, hc⟩ := (S1.out.below HB.out).at_ hlt
      have HR := Lib.hid (recsOf_snoc hlt)
      have hsz := HOK.out _ (List.getElem_mem hlt)
      have hpr := fun W => putRec_any (T[k]).1 (T[k]).2 W hsz.1 hsz.2
      generalize T[k] = p at hc HR hpr
      obtain ⟨p0, p1⟩ := p
      dsimp only at HR hpr
      generalize putRecB p0 p1 = q at HR hpr
      have HPR := Lib.hid hpr
      have d0 : wr.cell? ⟨b, off + k * 2, none⟩ = some (.string p0) := hc 0 _ rfl
      have d1 : wr.cell? ⟨b, off + k * 2 + 1, none⟩ = some (.string p1) := hc 1 _ rfl
      clear hc hpr hsz
      go_wp2_with fail
      refine (HPR.out _).mono ?_
      rintro e w2 ⟨rfl, hb2⟩
      have hzb2 := hb2.size
      simp at hzb2
      have hown2 := own_ch (hown.alloc (.cells #[.string p0, .string p1] 46)) (Ch.of_below hb2 []) (by simp)
      have HB2 := Lib.hid ((HB.out.alloc hB (.cells #[.string p0, .string p1] 46)).trans (hb2.mono (by simp; omega)))
      clear hb2 hown
      go_wp2_with (at_builtin; refine wpList_append_own _ rfl (.tmp 13) (.tmp 19) _ rfl w1.heap.size 9 i0 _ 1 16 Try.underlying50 hi Hz.out hz1 hz2 rfl (by decide) u3 k _ rfl (hown2.alloc _) ⟨w2.heap.size, 0, none⟩ 1 1 [.string q] rfl rfl (news_alloc _ _ _ _ _ rfl rfl) (one_s _) (by simp only [maxLen]; omega) (by omega) (by simp; omega) ?_; intro v' w3 hown3 hg3 _)
      go_roundw
      case rel =>
        refine ⟨k + 1, by omega, by go_num, ?_, ((HB2.out.alloc (by omega) _).grown hg3 (by simp; omega) (fun g hg => (hown2.lt g hg).1))⟩
        rw [HR.out, List.map_append]
        exact hown3
      case measure => simp [intOf]; omega
    · obtain rfl : k = T.length := by omega
      rw [List.take_length] at hown
      go_wp2_with fail
      go_ret
      obtain ⟨A2, c2, rfl⟩ := own_form hown
      exact ⟨A2, c2, rfl, hown.mono hz1w, HB1.out.trans (HB.out.mono hz1w)⟩
end Go.Proofs.Ythmkoehocjfjgaa
