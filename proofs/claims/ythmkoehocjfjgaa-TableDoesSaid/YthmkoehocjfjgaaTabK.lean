/- table.Table: Rows. -/
import Derived.Test.YthmkoehocjfjgaaShelf
import Derived.Test.YthmkoehocjfjgaaTabJ

namespace Go.Proofs.Ythmkoehocjfjgaa
open Go.RowKit Go.Maps Go.WideMaps Go.Sort Go.Shelf

theorem own_form {w : World} {base size n : Nat} {e : TypeId} {v : Value} {xs : List Value} (h : w.ownsRow base e size v n xs) : ∃ A c, v = .slice A n c := by
  rcases h.2 with ⟨rfl, rfl⟩ | ⟨g, cap, cur, rfl, _⟩
  · exact ⟨none, 0, rfl⟩
  · exact ⟨_, _, rfl⟩
theorem sortsS (m : Nat) : AnyZ.SortsIn Try.prog Try.sortedS_ren Fence.wide m :=
  ⟨fun blk off cap ss W hH hblk hsz => callsIn_wide.2 (AnyM.slices_Sort_string Try.sortS blk off cap ss W hH hblk hsz),
   fun p cap W => callsIn_wide.2 (AnyM.slices_Sort_string_none Try.sortS p cap W)⟩
theorem keys_any (mb : Option Nat) (W : World) : Calls Try.prog 43 #[.map mb] W fun e w' => e = .returned (.func (.func 60) #[] #[.pointer (some ⟨W.heap.size, 0, none⟩)]) ∧ w' = W.alloc (.cells #[.map mb] 60) :=
  (callsIn_wide (n := 5)).1 (AnyZ.keys_in Try.keysS Fence.wide 5 trivial rfl mb W)
theorem strKeys_dm (T : List KV) : strKeys (dm T) = T.map ky := by
  show (T.map enKV).map (fun p => strOf p.1) = _
  rw [List.map_map]; rfl
theorem sorted_dm {T : List KV} (hs : Srt T) : (T.map ky).Pairwise (fun x y => leB x y = true) := by
  rw [List.pairwise_map]
  refine hs.imp (fun {p q} h => ?_)
  rw [ltB_list] at h
  simp only [leB, decide_eq_true_eq] at h ⊢
  exact List.le_of_lt h
theorem merge_dm {T : List KV} (hs : Srt T) {ss : List (List UInt8)} (hp : ss.Perm (strKeys (dm T))) : ss.mergeSort leB = T.map ky := by
  rw [mergeSort_of_perm hp, strKeys_dm]
  exact List.mergeSort_of_pairwise (sorted_dm hs)
theorem enc_ky (p : KV) : encStr (ky p) = .string p.1 := by simp [encStr, ky]
theorem sorted_any (b : Nat) (T : List KV) (w : World) (hm : Mp w b T) (hs : Srt T) (hT : T.length ≤ 1000) :
    Calls Try.prog 42 #[.func (.func 60) #[] #[.pointer (some ⟨w.heap.size, 0, none⟩)]] (w.alloc (.cells #[.map (some b)] 60)) fun e w' => ∃ A c, e = .returned (.slice A T.length c) ∧
      w'.ownsRow (w.heap.size + 1) 9 1 (.slice A T.length c) T.length (T.map fun p => .string p.1) ∧ Below (w.heap.size + 1) (w.alloc (.cells #[.map (some b)] 60)) w' := by
  have hbl := hm.lt
  have hsz : Maps.size (dm T) = T.length := dm_size T
  have hseq : SeqGives Fence.wide 2 Try.prog 60 #[.pointer (some ⟨w.heap.size, 0, none⟩)] encStr (fun ss => ss.Perm (strKeys (dm T))) (Maps.size (dm T)) (w.alloc (.cells #[.map (some b)] 60)) :=
    AnyZ.keys_gives (ρ := Try.keysS_ren) { Try.keysS with } Fence.wide _ trivial rfl (by omega) w.heap.size b T.length (dm T) _ (by simp) (by simp) (by
      obtain ⟨es, clock, hb, Ft, hs, hD⟩ := hm
      exact ⟨es, clock, (Below.heap_alloc _ _ b hbl).trans hb, Ft, hs, hD⟩)
  have h := (callsIn_wide (n := 5)).1 (AnyZ.sorted_in Try.sortedS Fence.wide 5 trivial trivial trivial trivial rfl (by omega) (sortsS _) (enters_of Try.func59 (by kernel_rfl) rfl) 60 #[.pointer (some ⟨w.heap.size, 0, none⟩)] trivial (enters_of Try.func60 (by kernel_rfl) rfl) _ _ (by rw [hsz]; simp only [maxLen]; omega) (by rw [hsz]; omega) _ hseq)
  refine h.mono ?_
  rintro e w' ⟨v, ss, rfl, hS, hrow, _, hb⟩
  have e1 : (ss.mergeSort (fun x y => decide (x ≤ y))).map encStr = T.map fun p => Value.string p.1 := by
    rw [show ss.mergeSort (fun x y => decide (x ≤ y)) = T.map ky from merge_dm hs hS, List.map_map]
    exact List.map_congr_left fun p _ => enc_ky p
  have e2 : ss.length = T.length := by rw [hS.length_eq, strKeys_dm, List.length_map]
  rw [e1, e2] at hrow
  have e3 : (w.alloc (.cells #[.map (some b)] 60)).heap.size = w.heap.size + 1 := by simp
  rw [e3] at hrow hb
  obtain ⟨A, c, rfl⟩ := own_form hrow
  exact ⟨A, c, rfl, hrow, hb⟩

theorem flat_fst (T : List KV) : (T.map Prod.fst).flatMap strC = T.map fun p => Value.string p.1 := by
  induction T with
  | nil => rfl
  | cons p r ih => rw [List.map_cons, List.flatMap_cons, ih]; rfl
theorem bless_ltB : ∀ a b : List UInt8, Op.bytesLess a b = ltB a b
  | [], [] => rfl
  | _ :: _, [] => rfl
  | [], _ :: _ => rfl
  | a :: r, b :: s => by
    unfold ltB Op.bytesLess
    by_cases h1 : a < b
    · simp [h1]
    · by_cases h2 : b < a
      · rw [if_neg h1, if_pos h2]
        have : (a == b) = false := beq_eq_false_iff_ne.2 (fun e => by subst e; exact h1 h2)
        simp [h1, this]
      · rw [if_neg h1, if_neg h2, ← bless_ltB r s]
        have e := u8_eq h1 h2
        subst e
        simp [UInt8.lt_irrefl]
theorem bytesLess_ltB (s t : ByteArray) : Op.bytesLess s.toList t.toList = ltB s.data.toList t.data.toList := by
  rw [Lib.toList_data, Lib.toList_data]
  exact bless_ltB _ _
def rowsFrom (f : ByteArray) (T : List KV) : List KV := T.filter fun p => !ltB (ky p) f.data.toList
theorem rowsFrom_snoc {f : ByteArray} {T : List KV} {k : Nat} (hk : k < T.length) : rowsFrom f (T.take (k + 1)) = rowsFrom f (T.take k) ++ (if ltB (ky T[k]) f.data.toList then [] else [T[k]]) := by
  unfold rowsFrom
  rw [List.take_succ_eq_append_getElem hk, List.filter_append]
  cases h : ltB (ky T[k]) f.data.toList <;> simp [h]
theorem getT_at {T : List KV} (hs : Srt T) : ∀ {k : Nat} (hk : k < T.length), getT (T[k]).1 T = some (T[k]).2 := by
  induction T with
  | nil => intro k hk; simp at hk
  | cons p r ih =>
    intro k hk
    cases k with
    | zero => simp [getT]
    | succ k =>
      have hk' : k < r.length := by simpa using hk
      have hl := hs.head _ (List.getElem_mem hk')
      have hne : p.1 ≠ (r[k]).1 := ltB_ne hl
      simp only [List.getElem_cons_succ]
      rw [getT, if_neg hne]
      exact ih hs.tail hk'
set_option maxRecDepth 100000 in
set_option maxHeartbeats 2000000 in
theorem trows_any (tb mb : Nat) (most : Int) (T : List KV) (f : ByteArray) (w : World) (hT : T.length ≤ 1000) (hs : Srt T) (hok : ∀ p ∈ T, p.1.size ≤ maxLen) (h : TabAt w tb mb most T) :
    Calls Try.prog 19 #[.pointer (some ⟨tb, 0, none⟩), .string f] w fun e w' => ∃ v, e = .returned v ∧ w'.ownsRow w.heap.size 46 2 v (rowsFrom f T).length ((rowsFrom f T).flatMap rowC) ∧ Below w.heap.size w w' := by
  obtain ⟨i0, hi, hz0, hz1, hz2⟩ := info_parts infoR
  have Hz := Lib.hid hz0
  have c0 : w.cell? ⟨tb, 0, none⟩ = some (.map (some mb)) := h.1.cell 0
  have H := Lib.hid h
  have HS := Lib.hid hs
  have HOK := Lib.hid hok
  clear hz0 h hs hok
  go_enter Try.func19, Try.ntmps19
  go_wp2_with (first
    | (go_at_call 43; refine (keys_any _ _).mono ?_; rintro e w' ⟨rfl, rfl⟩)
    | (go_at_call 42; refine (sorted_any mb T w H.out.2 HS.out hT).mono ?_; rintro e w1 ⟨A, c, rfl, hk, hb1⟩; have HK := Lib.hid hk; have HB1 := Lib.hid (((Below.refl w.heap.size w).alloc (Nat.le_refl _) (.cells #[.map (some mb)] 60)).trans (hb1.mono (by omega))); clear hk hb1 c0))
  have hzw := HB1.out.size
  have HSL : Hid (Sl w1 w1.heap.size 1 strC A (T.map Prod.fst)) := by
    have := Sl.of_own (enc := strC) (l := T.map Prod.fst) (c := c) (A := A) (n := T.length) (fun _ => rfl) (by
      rw [List.length_map]
      rw [flat_fst]; exact HK.out)
    exact this
  have HM1 := Lib.hid (H.out.ch (Ch.of_below HB1.out []) (by simp) (by simp))
  clear HK
  go_loopw [5, 7, 15] (fun v _ i wr => ∃ k : Nat, k ≤ T.length ∧ i = .int .i64 k ∧ wr.ownsRow w1.heap.size 46 2 v (rowsFrom f (T.take k)).length ((rowsFrom f (T.take k)).flatMap rowC) ∧ Below w1.heap.size w1 wr) (fun _ _ i _ => T.length - (intOf i).toNat)
  case atStart => exact ⟨0, Nat.zero_le _, rfl, ⟨by simp [rowsFrom], .inl ⟨rfl, by simp [rowsFrom]⟩⟩, Below.refl _ _⟩
  case round =>
    obtain ⟨k, hk, rfl, hown, hb⟩ := hrel
    have hB := hb.size
    have HB := Lib.hid hb
    have htl : (rowsFrom f (T.take k)).length ≤ k := Nat.le_trans (List.length_filter_le _ _) (List.length_take_le _ _)
    by_cases hlt : k < T.length
    · have hlt' : k < (T.map Prod.fst).length := by simpa using hlt
      obtain ⟨b, off, rfl, hbB, hc⟩ := (HSL.out.below hb).at_ hlt'
      have hT' := H.out
      have hc0 : wr.cell? ⟨b, off + k, none⟩ = some (.string (T[k]).1) := by have := hc 0 _ rfl; rw [Nat.mul_one, List.getElem_map] at this; exact this
      have HTR := Lib.hid (HM1.out.ch (Ch.of_below hb []) (by simp) (by simp))
      have ht0 : wr.cell? ⟨tb, 0, none⟩ = some (.map (some mb)) := HTR.out.1.cell 0
      have hl := Mp.look1 HTR.out.2 (T[k]).1 (HOK.out _ (List.getElem_mem hlt))
      rw [getT_at HS.out hlt] at hl
      have HF := Lib.hid (rowsFrom_snoc (f := f) hlt)
      generalize T[k] = p at hc0 hl HF
      obtain ⟨p0, p1⟩ := p
      dsimp only [Option.getD_some] at hc0 hl
      clear hc hT' hb
      cases hcmp : ltB p0.data.toList f.data.toList
      · have hbl : Op.bytesLess p0.toList f.toList = false := by rw [bytesLess_ltB]; exact hcmp
        have HN : Hid (rowsFrom f (T.take (k + 1)) = rowsFrom f (T.take k) ++ [(p0, p1)]) := by
          show _ = _
          rw [HF.out, if_neg (by show ¬ ltB p0.data.toList f.data.toList = true; rw [hcmp]; decide)]
        generalize rowsFrom f (T.take k) = rk at hown HN htl
        clear hcmp HF
        go_wp2_with (at_builtin; refine wpList_append_own _ rfl (.tmp 22) (.tmp 31) _ rfl w1.heap.size 46 i0 _ 2 32 Try.underlying37 hi Hz.out hz1 hz2 rfl (by decide) u5 rk.length _ rfl (hown.alloc _) ⟨wr.heap.size, 0, none⟩ 1 1 (rowC (p0, p1)) rfl rfl (news_alloc _ _ _ _ _ rfl rfl) (rowC_one _) (by simp only [maxLen]; omega) (by omega) (by simp; omega) ?_; intro v' w3 hown1 hg1 _)
        go_roundw
        case rel =>
          refine ⟨k + 1, by omega, by go_num, ?_, (HB.out.alloc hB _).grown hg1 (by simp; omega) (fun g hg => (hown.lt g hg).1)⟩
          rw [HN.out, List.length_append, List.flatMap_append]
          simpa using hown1
        case measure => simp [intOf]; omega
      · have hbl : Op.bytesLess p0.toList f.toList = true := by rw [bytesLess_ltB]; exact hcmp
        have HN : Hid (rowsFrom f (T.take (k + 1)) = rowsFrom f (T.take k)) := by
          show _ = _
          rw [HF.out, if_pos (by exact hcmp), List.append_nil]
        clear hcmp HF
        go_wp2_with fail
        go_roundw
        case rel =>
          refine ⟨k + 1, by omega, by go_num, ?_, HB.out⟩
          rw [HN.out]; exact hown
        case measure => simp [intOf]; omega
    · obtain rfl : k = T.length := by omega
      rw [List.take_length] at hown
      go_wp2_with fail
      go_ret
      exact ⟨_, rfl, hown.mono hzw, HB1.out.trans (HB.out.mono hzw)⟩
end Go.Proofs.Ythmkoehocjfjgaa
