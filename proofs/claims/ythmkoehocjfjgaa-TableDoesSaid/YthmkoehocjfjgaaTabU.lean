/- The reference's table: New, find, Get, Rows. -/
import Derived.Test.YthmkoehocjfjgaaTabT
import Derived.Test.YthmkoehocjfjgaaPlainF

namespace Go.Proofs.Ythmkoehocjfjgaa
open Go.RowKit Go.Maps

/-- the reference's table behind tr has the rows T -/
def RT (w : World) (tr : Nat) (most : Int) (T : List KV) : Prop :=
  ∃ A c, Blk w tr 57 #[.slice A T.length c, .int .i64 most] ∧ w.ownsRow 0 48 2 (.slice A T.length c) T.length (T.flatMap rowC)
def okT (T : List KV) : Prop := T.length ≤ 1000 ∧ ∀ p ∈ T, p.1.size ≤ maxLen ∧ p.2.size ≤ maxLen
theorem isI_f {k : ByteArray} {T : List KV} {j : Nat} {p : KV} (hj : T[j]? = some p) (h : fdI k T = j) : isI k T = decide (p.1 = k) := by
  unfold isI; rw [h, hj]
theorem isI_e {k : ByteArray} {T : List KV} (h : fdI k T = T.length) : isI k T = false := by
  unfold isI; rw [h, List.getElem?_eq_none (Nat.le_refl _)]
theorem str_eqb {x y : ByteArray} : (x.toList == y.toList) = decide (x = y) := by
  by_cases h : x = y
  · subst h; simp
  · rw [str_neb h, decide_eq_false h]
set_option maxRecDepth 100000 in
set_option maxHeartbeats 4000000 in
theorem rfind_any (tr : Nat) (most : Int) (T : List KV) (k : ByteArray) (w : World) (hk : k.size ≤ maxLen) (hT : okT T) (h : RT w tr most T) :
    Calls Try.prog 44 #[.pointer (some ⟨tr, 0, none⟩), .string k] w fun e w' => e = .returned (.tuple #[.int .i64 (fdI k T), .bool (isI k T)]) ∧ ∃ n, w' = w.drewN n := by
  obtain ⟨A, c, hb, ho⟩ := h
  obtain ⟨hT1, hT2⟩ := hT
  have hs := Sl.of_own rowC_len ho
  have c0 : w.cell? ⟨tr, 0, none⟩ = some (.slice A T.length c) := hb.cell 0
  have HS := Lib.hid hs
  have HT2 := Lib.hid hT2
  clear hb ho hs hT2
  go_enter Try.func44, Try.ntmps44
  go_wp2_with fail
  go_loopw [6] (fun i w' => ∃ j q : Nat, j ≤ T.length ∧ i = .int .i64 j ∧ Hid ((T.take j).all (fun p => ltB (ky p) k.data.toList) = true) ∧ w' = w.drewN q) (fun i _ => T.length - (intOf i).toNat)
  case atStart => exact ⟨0, 0, Nat.zero_le _, rfl, rfl, rfl⟩
  case round =>
    obtain ⟨j, q, hj, rfl, HALL, rfl⟩ := hrel
    by_cases hjl : j < T.length
    · obtain ⟨b, off, rfl, hbB, hc⟩ := HS.out.at_ hjl
      have HTJ := Lib.hid (List.take_succ_eq_append_getElem hjl)
      have hp1 := (HT2.out _ (List.getElem_mem hjl)).1
      have HGJ := Lib.hid (List.getElem?_eq_getElem hjl)
      generalize T[j] = p at hc HTJ hp1 HGJ
      have d0 : w.cell? ⟨b, off + j * 2, none⟩ = some (.string p.1) := hc 0 _ rfl
      clear hc
      have hg : decide ((j : Int) < (T.length : Int)) = true := decide_eq_true (by omega)
      cases hlt : ltB (ky p) k.data.toList with
      | true =>
        have HL := Lib.hid hlt
        clear hlt
        go_wp2_with (go_at_call 23; refine (rLess_v p.1 k true _ hp1 hk HL.out).mono ?_; rintro e w1 ⟨rfl, n, rfl⟩)
        go_roundw
        case rel => exact ⟨j + 1, _, by omega, by go_num, by show _ = _; rw [HTJ.out, List.all_append, HALL.out]; simp [HL.out], by first | rfl | rw [World.drewN_drewN]⟩
        case measure => simp [intOf]; omega
      | false =>
        have HL := Lib.hid hlt
        have HF := Lib.hid (fd_at HALL.out hj (fun p' hp' => by rw [HGJ.out] at hp'; injection hp' with hp'; rw [← hp']; exact HL.out))
        have HI := Lib.hid (isI_f HGJ.out HF.out)
        have hse := @str_eqb p.1 k
        clear hlt
        go_wp2_with (go_at_call 23; refine (rLess_v p.1 k false _ hp1 hk HL.out).mono ?_; rintro e w1 ⟨rfl, n, rfl⟩)
        go_quiet (fail)
        go_wp2_with fail
        go_ret2
        exact ⟨ret_ib (congrArg Int.ofNat HF.out).symm HI.out.symm, _, by simp only [World.drewN_drewN]; exact rfl⟩
    · have hg : decide ((j : Int) < (T.length : Int)) = false := decide_eq_false (by omega)
      obtain rfl : j = T.length := by omega
      have HF := Lib.hid (fd_at HALL.out (Nat.le_refl _) (fun p' hp' => by rw [List.getElem?_eq_none (Nat.le_refl _)] at hp'; cases hp'))
      go_wp2_with fail
      go_quiet (fail)
      go_wp2_with fail
      go_ret2
      exact ⟨ret_ib (congrArg Int.ofNat HF.out).symm (isI_e HF.out).symm, _, by simp only [World.drewN_drewN]; exact rfl⟩
set_option maxRecDepth 100000 in
set_option maxHeartbeats 4000000 in
theorem rget_any (tr : Nat) (most : Int) (T : List KV) (k : ByteArray) (w : World) (hk : k.size ≤ maxLen) (hT : okT T) (hs : Srt T) (h : RT w tr most T) :
    Calls Try.prog 31 #[.pointer (some ⟨tr, 0, none⟩), .string k] w fun e w' => e = .returned (.tuple #[.string ((getT k T).getD ByteArray.empty), .int .i64 (delE k T)]) ∧ ∃ n, w' = w.drewN n := by
  have hf := rfind_any tr most T k w hk hT h
  have hg := fd_get k hs
  have hsome := fd_isSome (k := k) hs
  obtain ⟨A, c, hb, ho⟩ := h
  have hsl := Sl.of_own rowC_len ho
  have c0 : w.cell? ⟨tr, 0, none⟩ = some (.slice A T.length c) := hb.cell 0
  clear hb ho
  cases hi : isI k T with
  | true =>
    have hlt := isI_lt hi
    rw [hi] at hf hg
    rw [if_pos rfl, List.getElem?_eq_getElem hlt] at hg
    obtain ⟨b, off, rfl, hbB, hc⟩ := hsl.at_ hlt
    have hd : delE k T = 0 := by unfold delE; rw [hg]; rfl
    rw [hd, hg]
    generalize fdI k T = i at hf hlt hc
    generalize T[i] = p at hc
    have d1 : w.cell? ⟨b, off + i * 2 + 1, none⟩ = some (.string p.2) := hc 1 _ rfl
    have HF := Lib.hid hf
    clear hf hc hg hsl hd
    go_enter Try.func31, Try.ntmps31
    go_wp2_with (go_at_call 44; refine HF.out.mono ?_; rintro e w1 ⟨rfl, n, rfl⟩)
    go_ret2
    exact ⟨rfl, _, rfl⟩
  | false =>
    rw [hi] at hf hg
    rw [if_neg (by decide)] at hg
    have hd : delE k T = 6 := by unfold delE; rw [hg]; rfl
    rw [hd, hg]
    have HF := Lib.hid hf
    clear hf hg hsl hd c0
    go_enter Try.func31, Try.ntmps31
    go_wp2_with (go_at_call 44; refine HF.out.mono ?_; rintro e w1 ⟨rfl, n, rfl⟩)
    go_ret2
    exact ⟨rfl, _, rfl⟩
theorem rnew_ok (m : Int) (w : World) (h1 : 1 ≤ m) (h2 : m ≤ 1000) :
    Calls Try.prog 25 #[.int .i64 m] w fun e w' => ∃ tr, e = .returned (.tuple #[.pointer (some ⟨tr, 0, none⟩), .int .i64 0]) ∧ RT w' tr m [] ∧ w.heap.size ≤ tr ∧ Below w.heap.size w w' := by
  go_enter Try.func25, Try.ntmps25
  go_wp2_with fail
  go_ret2
  exact ⟨_, rfl, ⟨none, 0, Blk.new _ _ _, by simp, .inl ⟨rfl, rfl⟩⟩, Nat.le_refl _, (Below.refl _ _).alloc (Nat.le_refl _) _⟩
theorem rnew_bad (m : Int) (w : World) (h : m < 1 ∨ 1000 < m) :
    Calls Try.prog 25 #[.int .i64 m] w fun e w' => e = .returned (.tuple #[.pointer none, .int .i64 1]) ∧ w = w' := by
  go_enter Try.func25, Try.ntmps25
  rcases h with h | h
  all_goals
    go_wp2_with fail
    try go_wp2_with fail
    go_ret2
    exact ⟨rfl, rfl⟩
end Go.Proofs.Ythmkoehocjfjgaa
