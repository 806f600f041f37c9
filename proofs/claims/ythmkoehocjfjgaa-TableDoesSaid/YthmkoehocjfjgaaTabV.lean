/- The reference's table: Rows, May, Put, Del. -/
import Derived.Test.YthmkoehocjfjgaaTabU
import Derived.Test.YthmkoehocjfjgaaAnyB

import Derived.Deep.Onto
namespace Go.Proofs.Ythmkoehocjfjgaa
open Go.RowKit Go.Maps

theorem rt_form {w : World} {tr : Nat} {most : Int} {T : List KV} (h : RT w tr most T) : (T = [] ∧ Blk w tr 57 #[.slice none 0 0, .int .i64 most]) ∨
    ∃ g c, T.length ≤ c ∧ Blk w tr 57 #[.slice (some ⟨g, 0, none⟩) T.length c, .int .i64 most] ∧ w.ownsRow 0 48 2 (.slice (some ⟨g, 0, none⟩) T.length c) T.length (T.flatMap rowC) := by
  obtain ⟨A, c, hb, ho⟩ := h
  rcases ho.2 with ⟨hv, hx⟩ | ⟨g, cap, cur, hv, h1, h2, h3, _⟩
  · injection hv with h1 h2 h3
    left
    have hT : T = [] := List.eq_nil_of_length_eq_zero h2
    refine ⟨hT, ?_⟩
    rw [h1, h2, h3] at hb; exact hb
  · injection hv with e1 e2 e3
    subst e1 e3
    exact .inr ⟨g, c, h3, hb, ho⟩
theorem sl_drop {α : Type} {w : World} {B k g i : Nat} {enc : α → List Value} {l : List α} (h : Sl w B k enc (some ⟨g, 0, none⟩) l) : Sl w B k enc (some ⟨g, i * k, none⟩) (l.drop i) := fun hn => by
  obtain ⟨b, off, e, hb, hc⟩ := h (fun e => by subst e; simp at hn)
  injection e with e
  injection e with e1 e2
  subst e1 e2
  refine ⟨g, i * k, rfl, hb, fun j x hx r u hu => ?_⟩
  rw [List.getElem?_drop] at hx
  have := hc (i + j) x hx r u hu
  rw [Nat.zero_add, Nat.add_mul] at this
  exact this
theorem sl_take {α : Type} {w : World} {B k : Nat} {A : Option Addr} {enc : α → List Value} {l : List α} (h : Sl w B k enc A l) (i : Nat) : Sl w B k enc A (l.take i) := fun hn => by
  obtain ⟨b, off, e, hb, hc⟩ := h (fun e => by subst e; simp at hn)
  refine ⟨b, off, e, hb, fun j x hx r u hu => ?_⟩
  rw [List.getElem?_take] at hx
  split at hx
  · exact hc j x hx r u hu
  · cases hx
theorem flat_takeR (T : List KV) (i : Nat) (hi : i ≤ T.length) {w : World} {B : Nat} {A : Option Addr} (h : Sl w B 2 rowC A T) : Reads w B 2 A i ((T.take i).flatMap rowC) := by
  have := Reads.of_sl rowC_len (sl_take h i)
  rwa [List.length_take, Nat.min_eq_left hi] at this
theorem flat_dropR (T : List KV) (i g : Nat) {w : World} {B : Nat} (h : Sl w B 2 rowC (some ⟨g, 0, none⟩) T) : Reads w B 2 (some ⟨g, i * 2, none⟩) (T.length - i) ((T.drop i).flatMap rowC) := by
  have := Reads.of_sl rowC_len (sl_drop (i := i) h)
  rwa [List.length_drop] at this
theorem flat_oneR (T : List KV) : ∀ u ∈ T.flatMap rowC, u.oneCell' = true := fun u hu => by
  obtain ⟨x, _, hx⟩ := List.mem_flatMap.1 hu
  exact rowC_one x u hx
theorem rt_put {w w3 : World} {tr n : Nat} {most : Int} {v0 v3 : Value} {T' : List KV} {xs : List Value} (hB : Below w.heap.size w w3) (hb : Blk w tr 57 #[v0, .int .i64 most])
    (ho : w3.ownsRow w.heap.size 48 2 v3 n xs) (hn : n = T'.length) (hx : xs = T'.flatMap rowC) : RT (w3.setCell ⟨tr, 0, none⟩ v3) tr most T' ∧ Ch [tr] w (w3.setCell ⟨tr, 0, none⟩ v3) := by
  subst hn hx
  obtain ⟨A, c, rfl⟩ := own_form ho
  have hlt := hb.lt
  have h1 : Blk w3 tr 57 #[v0, .int .i64 most] := hb.bel hB
  have hc : Ch [tr] w3 (w3.setCell ⟨tr, 0, none⟩ (.slice A T'.length c)) := Ch.set_ (by simp) _ _ _
  refine ⟨⟨A, c, h1.set_ 0 _, (Ch.owns hc ho (fun b hb' hm => ?_)).mono (Nat.zero_le _)⟩, (Ch.of_below hB [tr]).trans hc⟩
  have := (ho.lt b hb').1
  simp at hm
  omega
theorem put_step1 {w w1 : World} {n tr : Nat} {e e' : TypeId} {a b : Value} (hg : ((w.drewN n).alloc (.cells #[] e)).grownBy w1 (some w.heap.size)) (hb : Blk w tr e' #[a, b]) : Hid (Below w.heap.size w w1) ∧ w1.cell? ⟨tr, 0, none⟩ = some a := by
  have h1 : Below w.heap.size w w1 := ((below_drewN (Below.refl _ _) n).alloc (by simp) _).grown hg (by simp) (fun r hr => by injection hr with hr; omega)
  exact ⟨h1, (Blk.bel hb h1).cell 0⟩
theorem put_step2 {w w1 w2 : World} {n s tr : Nat} {e e' : TypeId} {a b v : Value} {xs : List Value} (ho : w1.ownsRow w.heap.size e s v n xs) (hg : w1.grownBy w2 v.ownBlock) (h1 : Below w.heap.size w w1) (hb : Blk w tr e' #[a, b]) :
    Hid (Below w.heap.size w w2) ∧ w2.cell? ⟨tr, 0, none⟩ = some a ∧ w2.frozen? ⟨tr, 0, none⟩ = false := by
  have h2 := (grown_below ho hg h1).2
  exact ⟨h2, (Blk.bel hb h2).cell 0, (Blk.bel hb h2).frozen 0⟩
theorem put_step3 {w w1 w2 : World} {n s tr : Nat} {e e' : TypeId} {a b v : Value} {o : Obj} {xs : List Value} (ho : w1.ownsRow w.heap.size e s v n xs) (hg : (w1.alloc o).grownBy w2 v.ownBlock) (h1 : Below w.heap.size w w1) (hb : Blk w tr e' #[a, b]) :
    Hid (Below w.heap.size w w2) ∧ w2.cell? ⟨tr, 0, none⟩ = some a := by
  have h2 := (grown_below (ho.alloc o) hg (h1.alloc h1.size o)).2
  exact ⟨h2, (Blk.bel hb h2).cell 0⟩
set_option maxRecDepth 100000 in
set_option maxHeartbeats 4000000 in
theorem rrows_any (tr : Nat) (most : Int) (T R : List KV) (f : ByteArray) (w : World) (hf : f.size ≤ maxLen) (hT : okT T) (hs : Srt T) (h : RT w tr most T) (hR : rowsFrom f T = R) :
    Calls Try.prog 30 #[.pointer (some ⟨tr, 0, none⟩), .string f] w fun e w' => ∃ A c, e = .returned (.slice A R.length c) ∧ Sl w' w'.heap.size 2 rowC A R ∧ Below w.heap.size w w' := by
  have hfd := rfind_any tr most T f w hf hT h
  have hr := fd_rows f hs
  have hle := fd_le f T
  have hT1 := hT.1
  rw [hR] at hr
  generalize isI f T = bi at hfd
  generalize fdI f T = i at hfd hr hle
  have HF := Lib.hid hfd
  have hRl : R.length = T.length - i := by rw [hr, List.length_drop]
  clear hfd
  rcases rt_form h with ⟨rfl, hb⟩ | ⟨g, c, hc, hb, ho⟩
  · have c0 : w.cell? ⟨tr, 0, none⟩ = some (.slice none 0 0) := hb.cell 0
    obtain rfl : i = 0 := by simpa using hle
    subst hr
    clear h hb
    go_enter Try.func30, Try.ntmps30
    go_wp2_with (go_at_call 44; refine HF.out.mono ?_; rintro e w1 ⟨rfl, n, rfl⟩)
    go_ret
    exact ⟨none, 0, rfl, Sl.nil _ _ _ _ _, below_drewN (Below.refl _ _) _⟩
  · have c0 : w.cell? ⟨tr, 0, none⟩ = some (.slice (some ⟨g, 0, none⟩) T.length c) := hb.cell 0
    have hsl := Sl.of_own rowC_len ho
    have HSL := Lib.hid (sl_drop (i := i) hsl)
    clear h hb ho hsl
    by_cases hci : c = i
    · go_enter Try.func30, Try.ntmps30
      go_wp2_with (go_at_call 44; refine HF.out.mono ?_; rintro e w1 ⟨rfl, n, rfl⟩)
      go_ret
      have hR0 : R = [] := by rw [hr]; exact List.drop_of_length_le (by omega)
      exact ⟨some ⟨g, 0, none⟩, 0, by rw [hRl]; rfl, by rw [hR0]; exact Sl.nil _ _ _ _ _, below_drewN (Below.refl _ _) _⟩
    · go_enter Try.func30, Try.ntmps30
      go_wp2_with (go_at_call 44; refine HF.out.mono ?_; rintro e w1 ⟨rfl, n, rfl⟩)
      go_ret
      exact ⟨some ⟨g, i * 2, none⟩, c - i, by rw [hRl]; rfl, by rw [hr]; exact HSL.out, below_drewN (Below.refl _ _) _⟩
set_option maxRecDepth 100000 in
set_option maxHeartbeats 8000000 in
theorem rdel_any (tr : Nat) (most : Int) (T : List KV) (k : ByteArray) (w : World) (hk : k.size ≤ maxLen) (hT : okT T) (hs : Srt T) (h : RT w tr most T) :
    Calls Try.prog 27 #[.pointer (some ⟨tr, 0, none⟩), .string k] w fun e w' => e = .returned (.int .i64 (delE k T)) ∧ RT w' tr most (delT k T) ∧ Ch [tr] w w' := by
  obtain ⟨j0, hj, hy0, hy1, hy2⟩ := info_parts infoR15
  have Hy := Lib.hid hy0
  have hfd := rfind_any tr most T k w hk hT h
  have hsome := fd_isSome (k := k) hs
  have hle := fd_le k T
  have hT1 := hT.1
  have H := Lib.hid h
  clear hy0
  cases hi : isI k T with
  | false =>
    rw [hi] at hfd hsome
    have hn : getT k T = none := by simpa using hsome
    have hd : delE k T = 6 := by unfold delE; rw [hn]; rfl
    have hdt : delT k T = T := by
      unfold delT
      rw [List.filter_eq_self]
      intro q hq
      rw [decide_eq_false (getT_none.1 hn q hq)]; rfl
    rw [hd, hdt]
    have HF := Lib.hid hfd
    clear hfd h hn hd hdt
    go_enter Try.func27, Try.ntmps27
    go_wp2_with (go_at_call 44; refine HF.out.mono ?_; rintro e w1 ⟨rfl, n, rfl⟩)
    go_ret
    exact ⟨rfl, H.out, Ch.drewN _ _ _⟩
  | true =>
    have hlt := isI_lt hi
    have hdt := fd_del k hs hi
    rw [hi] at hfd hsome
    have hd : delE k T = 0 := by unfold delE; cases hg : getT k T with
      | none => rw [hg] at hsome; cases hsome
      | some v => rfl
    rw [hd]
    generalize fdI k T = i at hfd hlt hdt hle
    have HD := Lib.hid hdt
    have HF := Lib.hid hfd
    clear hfd hdt hd hsome
    rcases rt_form h with ⟨rfl, hb⟩ | ⟨g, c, hc, hb, ho⟩
    · simp at hlt
    · have c0 : w.cell? ⟨tr, 0, none⟩ = some (.slice (some ⟨g, 0, none⟩) T.length c) := hb.cell 0
      have HBT := Lib.hid hb
      have HSL := Lib.hid (Sl.of_own rowC_len ho)
      have htr := hb.lt
      clear h hb ho
      by_cases hci : c = i + 1
      · have HR2 : Hid (∀ W, Below w.heap.size w W → Reads W w.heap.size 2 (some ⟨g, 0, none⟩) (T.length - (i + 1)) ((T.drop (i + 1)).flatMap rowC)) := fun W hW => by
          rw [List.drop_of_length_le (by omega), show T.length - (i + 1) = 0 by omega]; exact ⟨rfl, fun h => absurd h (by omega)⟩
        have tok1 : True := trivial
        have tok2 : True := trivial
        go_enter Try.func27, Try.ntmps27
        go_wp2_with (first
          | (go_at_call 44; refine HF.out.mono ?_; rintro e w0 ⟨rfl, n, rfl⟩; have c1 : ((w.drewN n).alloc (.cells #[] 48)).cell? ⟨tr, 0, none⟩ = some (.slice (some ⟨g, 0, none⟩) T.length c) := (Blk.alloc (Blk.drewN HBT.out n) _).cell 0)
          | (at_builtin; have _t := tok1; go_must (refine wpList_append_any _ rfl (.tmp 16) (.tmp 22) _ rfl w.heap.size 48 j0 _ 2 32 Try.underlying35 hj Hy.out hy1 hy2 rfl (by decide) _ 0 [] rfl (own_empty (heap_alloc_new _ _) (by simp)) w.heap.size _ i _ ((T.take i).flatMap rowC) rfl (flat_takeR T i hle (HSL.out.below ((below_drewN (Below.refl _ _) n).alloc (by simp) _))) (flat_oneR _) (by simp only [maxLen]; omega) (by omega) (by simp) ?_); go_must (intro v1 w1 hown1 hg1 _; rw [Nat.zero_add, List.nil_append] at hown1; obtain ⟨HB1, t0⟩ := put_step1 hg1 HBT.out; clear tok1))
          | (at_builtin; have _t := tok2; refine wpList_append_any _ rfl (.tmp 24) (.tmp 31) _ rfl w.heap.size 48 j0 _ 2 32 Try.underlying35 hj Hy.out hy1 hy2 rfl (by decide) v1 _ _ rfl hown1 w.heap.size _ (T.length - (i + 1)) _ _ rfl (HR2.out _ HB1.out) (flat_oneR _) (by simp only [maxLen]; omega) (by omega) HB1.out.size ?_; intro v2 w2 hown2 hg2 _; have hown2a := hown1; obtain ⟨HB2, _, f0⟩ := put_step2 hown2a hg2 HB1.out HBT.out; obtain ⟨A2, c2, rfl⟩ := own_form hown2; clear tok2))
        go_ret
        refine ⟨rfl, rt_put HB2.out HBT.out hown2 ?_ ?_⟩
        · rw [HD.out, List.length_append, List.length_take, List.length_drop]; omega
        · rw [HD.out, List.flatMap_append]
      · have HR2 : Hid (∀ W, Below w.heap.size w W → Reads W w.heap.size 2 (some ⟨g, (i + 1) * 2, none⟩) (T.length - (i + 1)) ((T.drop (i + 1)).flatMap rowC)) := fun W hW => flat_dropR T (i + 1) g (HSL.out.below hW)
        have tok1 : True := trivial
        have tok2 : True := trivial
        go_enter Try.func27, Try.ntmps27
        go_wp2_with (first
          | (go_at_call 44; refine HF.out.mono ?_; rintro e w0 ⟨rfl, n, rfl⟩; have c1 : ((w.drewN n).alloc (.cells #[] 48)).cell? ⟨tr, 0, none⟩ = some (.slice (some ⟨g, 0, none⟩) T.length c) := (Blk.alloc (Blk.drewN HBT.out n) _).cell 0)
          | (at_builtin; have _t := tok1; go_must (refine wpList_append_any _ rfl (.tmp 16) (.tmp 22) _ rfl w.heap.size 48 j0 _ 2 32 Try.underlying35 hj Hy.out hy1 hy2 rfl (by decide) _ 0 [] rfl (own_empty (heap_alloc_new _ _) (by simp)) w.heap.size _ i _ ((T.take i).flatMap rowC) rfl (flat_takeR T i hle (HSL.out.below ((below_drewN (Below.refl _ _) n).alloc (by simp) _))) (flat_oneR _) (by simp only [maxLen]; omega) (by omega) (by simp) ?_); go_must (intro v1 w1 hown1 hg1 _; rw [Nat.zero_add, List.nil_append] at hown1; obtain ⟨HB1, t0⟩ := put_step1 hg1 HBT.out; clear tok1))
          | (at_builtin; have _t := tok2; refine wpList_append_any _ rfl (.tmp 24) (.tmp 31) _ rfl w.heap.size 48 j0 _ 2 32 Try.underlying35 hj Hy.out hy1 hy2 rfl (by decide) v1 _ _ rfl hown1 w.heap.size _ (T.length - (i + 1)) _ _ rfl (HR2.out _ HB1.out) (flat_oneR _) (by simp only [maxLen]; omega) (by omega) HB1.out.size ?_; intro v2 w2 hown2 hg2 _; have hown2a := hown1; obtain ⟨HB2, _, f0⟩ := put_step2 hown2a hg2 HB1.out HBT.out; obtain ⟨A2, c2, rfl⟩ := own_form hown2; clear tok2))
        go_ret
        refine ⟨rfl, rt_put HB2.out HBT.out hown2 ?_ ?_⟩
        · rw [HD.out, List.length_append, List.length_take, List.length_drop]; omega
        · rw [HD.out, List.flatMap_append]
set_option maxRecDepth 100000 in
set_option maxHeartbeats 8000000 in
theorem rput_any (tr : Nat) (most : Int) (T : List KV) (k v : ByteArray) (w : World) (hk : k.size ≤ maxLen) (hv : v.size ≤ maxLen) (hT : okT T) (hs : Srt T) (h : RT w tr most T) :
    Calls Try.prog 26 #[.pointer (some ⟨tr, 0, none⟩), .string k, .string v] w fun e w' => e = .returned (.int .i64 (putE most k v T)) ∧ RT w' tr most (putR most k v T) ∧ Ch [tr] w w' := by
  obtain ⟨j0, hj, hy0, hy1, hy2⟩ := info_parts infoR15
  have Hy := Lib.hid hy0
  have hfd := rfind_any tr most T k w hk hT h
  have hsome := fd_isSome (k := k) hs
  have hle := fd_le k T
  have hpt := fd_put k v hs
  have hT1 := hT.1
  have H := Lib.hid h
  clear hy0
  cases hm : mayB k v with
  | false =>
    have he : putE most k v T = 1 := by unfold putE; rw [if_pos hm]
    rw [putR_of (by rw [he]; decide), he]
    have HM := Lib.hid hm
    clear hfd h he hm hsome hpt
    go_enter Try.func26, Try.ntmps26
    go_wp2_with (go_at_call 34; refine (rmay_v k v false _ hk hv HM.out).mono ?_; rintro e w' ⟨rfl, rfl⟩)
    go_ret
    exact ⟨rfl, H.out, Ch.refl _ _⟩
  | true =>
    have HM := Lib.hid hm
    cases hi : isI k T with
    | true =>
      have hlt := isI_lt hi
      have he : putE most k v T = 0 := by
        unfold putE
        rw [if_neg (by rw [hm]; decide), if_neg]
        rintro ⟨h1, _⟩
        rw [hi] at hsome
        cases hg : getT k T with
        | none => rw [hg] at hsome; cases hsome
        | some v => rw [hg] at h1; cases h1
      rw [putR_ok he, he]
      rw [hi] at hfd hpt
      rw [if_pos rfl] at hpt
      generalize fdI k T = i at hfd hlt hpt hle
      have HD := Lib.hid hpt
      have HF := Lib.hid hfd
      clear hfd hpt he hsome hm
      rcases rt_form h with ⟨rfl, hb⟩ | ⟨g, c, hc, hb, ho⟩
      · simp at hlt
      · have HBT := Lib.hid hb
        have HSL := Lib.hid (Sl.of_own rowC_len ho)
        have HR1 : Hid (∀ W, Below w.heap.size w W → Reads W w.heap.size 2 (some ⟨g, 0, none⟩) i ((T.take i).flatMap rowC)) := fun W hW => flat_takeR T i hle (HSL.out.below hW)
        clear h hb ho
        by_cases hci : c = i + 1
        · have HR2 : Hid (∀ W, Below w.heap.size w W → Reads W w.heap.size 2 (some ⟨g, 0, none⟩) (T.length - (i + 1)) ((T.drop (i + 1)).flatMap rowC)) := fun W hW => by
            rw [List.drop_of_length_le (by omega), show T.length - (i + 1) = 0 by omega]; exact ⟨rfl, fun h => absurd h (by omega)⟩
          have tok1 : True := trivial
          have tok2 : True := trivial
          have tok3 : True := trivial
          have c0 : w.cell? ⟨tr, 0, none⟩ = some (.slice (some ⟨g, 0, none⟩) T.length c) := HBT.out.cell 0
          have cm : w.cell? ⟨tr, 1, none⟩ = some (.int .i64 most) := HBT.out.cell 1
          go_enter Try.func26, Try.ntmps26
          go_wp2_with (first
            | (go_at_call 34; refine (rmay_v k v true _ hk hv HM.out).mono ?_; rintro e w' ⟨rfl, rfl⟩)
            | (go_at_call 44; refine HF.out.mono ?_; rintro e w0 ⟨rfl, n, rfl⟩))
          go_quiet (fail)
          have c1 : ∀ q, ((w.drewN q).alloc (.cells #[] 48)).cell? ⟨tr, 0, none⟩ = some (.slice (some ⟨g, 0, none⟩) T.length c) := fun q => (Blk.alloc (Blk.drewN HBT.out q) _).cell 0
          go_wp2_with (first
            | (at_builtin; have _t := tok1; refine wpList_append_any _ rfl (.tmp 34) (.tmp 40) _ rfl w.heap.size 48 j0 _ 2 32 Try.underlying35 hj Hy.out hy1 hy2 rfl (by decide) _ 0 [] rfl (own_empty (heap_alloc_new _ _) (by simp)) w.heap.size _ i _ ((T.take i).flatMap rowC) rfl (HR1.out _ ((below_drewN (Below.refl _ _) _).alloc (by simp) _)) (flat_oneR _) (by simp only [maxLen]; omega) (by omega) (by simp) ?_; intro v1 w1 hown1 hg1 _; rw [Nat.zero_add, List.nil_append] at hown1; obtain ⟨HB1, t0⟩ := put_step1 hg1 HBT.out; clear tok1)
            | (at_builtin; have _t := tok2; refine wpList_append_own _ rfl (.tmp 42) (.tmp 46) _ rfl w.heap.size 48 j0 _ 2 32 Try.underlying35 hj Hy.out hy1 hy2 rfl (by decide) v1 _ _ rfl (hown1.alloc _) ⟨w1.heap.size, 0, none⟩ 1 1 (rowC (k, v)) rfl rfl (news_alloc _ _ _ _ _ rfl rfl) (rowC_one _) (by simp only [maxLen]; omega) (by omega) (by have := HB1.out.size; simp; omega) ?_; intro v2 w2 hown2 hg2 _; have hown1a := hown1; obtain ⟨HB2, t1⟩ := put_step3 hown1a hg2 HB1.out HBT.out; clear tok2)
            | (at_builtin; have _t := tok3; refine wpList_append_any _ rfl (.tmp 51) (.tmp 57) _ rfl w.heap.size 48 j0 _ 2 32 Try.underlying35 hj Hy.out hy1 hy2 rfl (by decide) v2 _ _ rfl hown2 w.heap.size _ (T.length - (i + 1)) _ _ rfl (HR2.out _ HB2.out) (flat_oneR _) (by simp only [maxLen]; omega) (by omega) HB2.out.size ?_; intro v3 w3 hown3 hg3 _; have hown2a := hown2; obtain ⟨HB3, _, f0⟩ := put_step2 hown2a hg3 HB2.out HBT.out; obtain ⟨A3, c3, rfl⟩ := own_form hown3; clear tok3))
          go_ret
          refine ⟨rfl, rt_put HB3.out HBT.out hown3 ?_ ?_⟩
          · rw [HD.out, List.length_append, List.length_cons, List.length_take, List.length_drop]; omega
          · rw [HD.out, List.flatMap_append, List.flatMap_cons, List.append_assoc]
        · have HR2 : Hid (∀ W, Below w.heap.size w W → Reads W w.heap.size 2 (some ⟨g, (i + 1) * 2, none⟩) (T.length - (i + 1)) ((T.drop (i + 1)).flatMap rowC)) := fun W hW => flat_dropR T (i + 1) g (HSL.out.below hW)
          have tok1 : True := trivial
          have tok2 : True := trivial
          have tok3 : True := trivial
          have c0 : w.cell? ⟨tr, 0, none⟩ = some (.slice (some ⟨g, 0, none⟩) T.length c) := HBT.out.cell 0
          have cm : w.cell? ⟨tr, 1, none⟩ = some (.int .i64 most) := HBT.out.cell 1
          go_enter Try.func26, Try.ntmps26
          go_wp2_with (first
            | (go_at_call 34; refine (rmay_v k v true _ hk hv HM.out).mono ?_; rintro e w' ⟨rfl, rfl⟩)
            | (go_at_call 44; refine HF.out.mono ?_; rintro e w0 ⟨rfl, n, rfl⟩))
          go_quiet (fail)
          have c1 : ∀ q, ((w.drewN q).alloc (.cells #[] 48)).cell? ⟨tr, 0, none⟩ = some (.slice (some ⟨g, 0, none⟩) T.length c) := fun q => (Blk.alloc (Blk.drewN HBT.out q) _).cell 0
          go_wp2_with (first
            | (at_builtin; have _t := tok1; refine wpList_append_any _ rfl (.tmp 34) (.tmp 40) _ rfl w.heap.size 48 j0 _ 2 32 Try.underlying35 hj Hy.out hy1 hy2 rfl (by decide) _ 0 [] rfl (own_empty (heap_alloc_new _ _) (by simp)) w.heap.size _ i _ ((T.take i).flatMap rowC) rfl (HR1.out _ ((below_drewN (Below.refl _ _) _).alloc (by simp) _)) (flat_oneR _) (by simp only [maxLen]; omega) (by omega) (by simp) ?_; intro v1 w1 hown1 hg1 _; rw [Nat.zero_add, List.nil_append] at hown1; obtain ⟨HB1, t0⟩ := put_step1 hg1 HBT.out; clear tok1)
            | (at_builtin; have _t := tok2; refine wpList_append_own _ rfl (.tmp 42) (.tmp 46) _ rfl w.heap.size 48 j0 _ 2 32 Try.underlying35 hj Hy.out hy1 hy2 rfl (by decide) v1 _ _ rfl (hown1.alloc _) ⟨w1.heap.size, 0, none⟩ 1 1 (rowC (k, v)) rfl rfl (news_alloc _ _ _ _ _ rfl rfl) (rowC_one _) (by simp only [maxLen]; omega) (by omega) (by have := HB1.out.size; simp; omega) ?_; intro v2 w2 hown2 hg2 _; have hown1a := hown1; obtain ⟨HB2, t1⟩ := put_step3 hown1a hg2 HB1.out HBT.out; clear tok2)
            | (at_builtin; have _t := tok3; refine wpList_append_any _ rfl (.tmp 51) (.tmp 57) _ rfl w.heap.size 48 j0 _ 2 32 Try.underlying35 hj Hy.out hy1 hy2 rfl (by decide) v2 _ _ rfl hown2 w.heap.size _ (T.length - (i + 1)) _ _ rfl (HR2.out _ HB2.out) (flat_oneR _) (by simp only [maxLen]; omega) (by omega) HB2.out.size ?_; intro v3 w3 hown3 hg3 _; have hown2a := hown2; obtain ⟨HB3, _, f0⟩ := put_step2 hown2a hg3 HB2.out HBT.out; obtain ⟨A3, c3, rfl⟩ := own_form hown3; clear tok3))
          go_ret
          refine ⟨rfl, rt_put HB3.out HBT.out hown3 ?_ ?_⟩
          · rw [HD.out, List.length_append, List.length_cons, List.length_take, List.length_drop]; omega
          · rw [HD.out, List.flatMap_append, List.flatMap_cons, List.append_assoc]
    | false =>
      have hn : getT k T = none := by rw [hi] at hsome; simpa using hsome
      rw [hi] at hfd hpt
      by_cases hfull : most ≤ (T.length : Int)
      · have he : putE most k v T = 9 := by
          unfold putE
          rw [if_neg (by rw [hm]; decide), if_pos ⟨by rw [hn]; rfl, hfull⟩]
        rw [putR_of (by rw [he]; decide), he]
        have HF := Lib.hid hfd
        have hge : decide (most ≤ (T.length : Int)) = true := decide_eq_true hfull
        clear hfd hpt he hm hfull
        generalize fdI k T = i at HF
        have HBT := H.out
        obtain ⟨A, c, hb, _⟩ := HBT
        have c0 : w.cell? ⟨tr, 0, none⟩ = some (.slice A T.length c) := hb.cell 0
        have cm : w.cell? ⟨tr, 1, none⟩ = some (.int .i64 most) := hb.cell 1
        clear hb h
        go_enter Try.func26, Try.ntmps26
        go_wp2_with (first
          | (go_at_call 34; refine (rmay_v k v true _ hk hv HM.out).mono ?_; rintro e w' ⟨rfl, rfl⟩)
          | (go_at_call 44; refine HF.out.mono ?_; rintro e w0 ⟨rfl, n, rfl⟩))
        go_quiet (fail)
        go_wp2_with fail
        go_ret
        exact ⟨rfl, by obtain ⟨A', c', h1, h2⟩ := H.out; exact ⟨A', c', h1, h2⟩, (Ch.drewN _ w _).trans (Ch.drewN _ _ _)⟩
      · have he : putE most k v T = 0 := by
          unfold putE
          rw [if_neg (by rw [hm]; decide), if_neg (fun h => hfull h.2)]
        rw [putR_ok he, he]
        rw [if_neg (by decide)] at hpt
        have hge : decide (most ≤ (T.length : Int)) = false := decide_eq_false hfull
        generalize fdI k T = i at hfd hpt hle
        have HD := Lib.hid hpt
        have HF := Lib.hid hfd
        clear hfd hpt he hsome hm hn
        rcases rt_form h with ⟨hTe, hb⟩ | ⟨g, c, hc, hb, ho⟩
        · have HBT := Lib.hid hb
          have HTE := Lib.hid hTe
          have hT0 : T.length = 0 := by rw [hTe]; rfl
          obtain rfl : i = 0 := by omega
          have HR1 : Hid (∀ W, Below w.heap.size w W → Reads W w.heap.size 2 none 0 ((T.take 0).flatMap rowC)) := fun W hW => ⟨rfl, fun h => absurd h (by omega)⟩
          have HR2 : Hid (∀ W, Below w.heap.size w W → Reads W w.heap.size 2 none 0 []) := fun W hW => ⟨rfl, fun h => absurd h (by omega)⟩
          clear h hb hTe
          have tok1 : True := trivial
          have tok2 : True := trivial
          have tok3 : True := trivial
          have c0 : w.cell? ⟨tr, 0, none⟩ = some (.slice none 0 0) := HBT.out.cell 0
          have cm : w.cell? ⟨tr, 1, none⟩ = some (.int .i64 most) := HBT.out.cell 1
          go_enter Try.func26, Try.ntmps26
          go_wp2_with (first
            | (go_at_call 34; refine (rmay_v k v true _ hk hv HM.out).mono ?_; rintro e w' ⟨rfl, rfl⟩)
            | (go_at_call 44; refine HF.out.mono ?_; rintro e w0 ⟨rfl, n, rfl⟩))
          go_quiet (fail)
          have c1 : ∀ q, ((w.drewN q).alloc (.cells #[] 48)).cell? ⟨tr, 0, none⟩ = some (.slice none 0 0) := fun q => (Blk.alloc (Blk.drewN HBT.out q) _).cell 0
          go_wp2_with (first
            | (at_builtin; have _t := tok1; refine wpList_append_any _ rfl (.tmp 34) (.tmp 40) _ rfl w.heap.size 48 j0 _ 2 32 Try.underlying35 hj Hy.out hy1 hy2 rfl (by decide) _ 0 [] rfl (own_empty (heap_alloc_new _ _) (by simp)) w.heap.size _ 0 _ ((T.take 0).flatMap rowC) rfl (HR1.out _ ((below_drewN (Below.refl _ _) _).alloc (by simp) _)) (flat_oneR _) (by simp only [maxLen]; omega) (by omega) (by simp) ?_; intro v1 w1 hown1 hg1 _; rw [Nat.zero_add, List.nil_append] at hown1; obtain ⟨HB1, t0⟩ := put_step1 hg1 HBT.out; clear tok1)
            | (at_builtin; have _t := tok2; refine wpList_append_own _ rfl (.tmp 42) (.tmp 46) _ rfl w.heap.size 48 j0 _ 2 32 Try.underlying35 hj Hy.out hy1 hy2 rfl (by decide) v1 _ _ rfl (hown1.alloc _) ⟨w1.heap.size, 0, none⟩ 1 1 (rowC (k, v)) rfl rfl (news_alloc _ _ _ _ _ rfl rfl) (rowC_one _) (by simp only [maxLen]; omega) (by omega) (by have := HB1.out.size; simp; omega) ?_; intro v2 w2 hown2 hg2 _; have hown1a := hown1; obtain ⟨HB2, t1⟩ := put_step3 hown1a hg2 HB1.out HBT.out; clear tok2)
            | (at_builtin; have _t := tok3; refine wpList_append_any _ rfl (.tmp 51) (.tmp 57) _ rfl w.heap.size 48 j0 _ 2 32 Try.underlying35 hj Hy.out hy1 hy2 rfl (by decide) v2 _ _ rfl hown2 w.heap.size _ 0 _ [] rfl (HR2.out _ HB2.out) (by simp) (by simp only [maxLen]; omega) (by omega) HB2.out.size ?_; intro v3 w3 hown3 hg3 _; have hown2a := hown2; obtain ⟨HB3, _, f0⟩ := put_step2 hown2a hg3 HB2.out HBT.out; obtain ⟨A3, c3, rfl⟩ := own_form hown3; clear tok3))
          go_ret
          refine ⟨rfl, rt_put HB3.out HBT.out hown3 ?_ ?_⟩
          · rw [HD.out, HTE.out]; rfl
          · rw [HD.out, HTE.out]; rfl
        · have HBT := Lib.hid hb
          have HSL := Lib.hid (Sl.of_own rowC_len ho)
          have HR1 : Hid (∀ W, Below w.heap.size w W → Reads W w.heap.size 2 (some ⟨g, 0, none⟩) i ((T.take i).flatMap rowC)) := fun W hW => flat_takeR T i hle (HSL.out.below hW)
          clear h hb ho
          by_cases hci : c = i
          · have HR2 : Hid (∀ W, Below w.heap.size w W → Reads W w.heap.size 2 (some ⟨g, 0, none⟩) (T.length - i) ((T.drop i).flatMap rowC)) := fun W hW => by
              rw [List.drop_of_length_le (by omega), show T.length - i = 0 by omega]; exact ⟨rfl, fun h => absurd h (by omega)⟩
            have tok1 : True := trivial
            have tok2 : True := trivial
            have tok3 : True := trivial
            have c0 : w.cell? ⟨tr, 0, none⟩ = some (.slice (some ⟨g, 0, none⟩) T.length c) := HBT.out.cell 0
            have cm : w.cell? ⟨tr, 1, none⟩ = some (.int .i64 most) := HBT.out.cell 1
            go_enter Try.func26, Try.ntmps26
            go_wp2_with (first
              | (go_at_call 34; refine (rmay_v k v true _ hk hv HM.out).mono ?_; rintro e w' ⟨rfl, rfl⟩)
              | (go_at_call 44; refine HF.out.mono ?_; rintro e w0 ⟨rfl, n, rfl⟩))
            go_quiet (fail)
            have c1 : ∀ q, ((w.drewN q).alloc (.cells #[] 48)).cell? ⟨tr, 0, none⟩ = some (.slice (some ⟨g, 0, none⟩) T.length c) := fun q => (Blk.alloc (Blk.drewN HBT.out q) _).cell 0
            go_wp2_with (first
              | (at_builtin; have _t := tok1; refine wpList_append_any _ rfl (.tmp 34) (.tmp 40) _ rfl w.heap.size 48 j0 _ 2 32 Try.underlying35 hj Hy.out hy1 hy2 rfl (by decide) _ 0 [] rfl (own_empty (heap_alloc_new _ _) (by simp)) w.heap.size _ i _ ((T.take i).flatMap rowC) rfl (HR1.out _ ((below_drewN (Below.refl _ _) _).alloc (by simp) _)) (flat_oneR _) (by simp only [maxLen]; omega) (by omega) (by simp) ?_; intro v1 w1 hown1 hg1 _; rw [Nat.zero_add, List.nil_append] at hown1; obtain ⟨HB1, t0⟩ := put_step1 hg1 HBT.out; clear tok1)
              | (at_builtin; have _t := tok2; refine wpList_append_own _ rfl (.tmp 42) (.tmp 46) _ rfl w.heap.size 48 j0 _ 2 32 Try.underlying35 hj Hy.out hy1 hy2 rfl (by decide) v1 _ _ rfl (hown1.alloc _) ⟨w1.heap.size, 0, none⟩ 1 1 (rowC (k, v)) rfl rfl (news_alloc _ _ _ _ _ rfl rfl) (rowC_one _) (by simp only [maxLen]; omega) (by omega) (by have := HB1.out.size; simp; omega) ?_; intro v2 w2 hown2 hg2 _; have hown1a := hown1; obtain ⟨HB2, t1⟩ := put_step3 hown1a hg2 HB1.out HBT.out; clear tok2)
              | (at_builtin; have _t := tok3; refine wpList_append_any _ rfl (.tmp 51) (.tmp 57) _ rfl w.heap.size 48 j0 _ 2 32 Try.underlying35 hj Hy.out hy1 hy2 rfl (by decide) v2 _ _ rfl hown2 w.heap.size _ (T.length - (i)) _ _ rfl (HR2.out _ HB2.out) (flat_oneR _) (by simp only [maxLen]; omega) (by omega) HB2.out.size ?_; intro v3 w3 hown3 hg3 _; have hown2a := hown2; obtain ⟨HB3, _, f0⟩ := put_step2 hown2a hg3 HB2.out HBT.out; obtain ⟨A3, c3, rfl⟩ := own_form hown3; clear tok3))
            go_ret
            refine ⟨rfl, rt_put HB3.out HBT.out hown3 ?_ ?_⟩
            · rw [HD.out, List.length_append, List.length_cons, List.length_take, List.length_drop]; omega
            · rw [HD.out, List.flatMap_append, List.flatMap_cons, List.append_assoc]
          · have HR2 : Hid (∀ W, Below w.heap.size w W → Reads W w.heap.size 2 (some ⟨g, i * 2, none⟩) (T.length - i) ((T.drop i).flatMap rowC)) := fun W hW => flat_dropR T i g (HSL.out.below hW)
            have tok1 : True := trivial
            have tok2 : True := trivial
            have tok3 : True := trivial
            have c0 : w.cell? ⟨tr, 0, none⟩ = some (.slice (some ⟨g, 0, none⟩) T.length c) := HBT.out.cell 0
            have cm : w.cell? ⟨tr, 1, none⟩ = some (.int .i64 most) := HBT.out.cell 1
            go_enter Try.func26, Try.ntmps26
            go_wp2_with (first
              | (go_at_call 34; refine (rmay_v k v true _ hk hv HM.out).mono ?_; rintro e w' ⟨rfl, rfl⟩)
              | (go_at_call 44; refine HF.out.mono ?_; rintro e w0 ⟨rfl, n, rfl⟩))
            go_quiet (fail)
            have c1 : ∀ q, ((w.drewN q).alloc (.cells #[] 48)).cell? ⟨tr, 0, none⟩ = some (.slice (some ⟨g, 0, none⟩) T.length c) := fun q => (Blk.alloc (Blk.drewN HBT.out q) _).cell 0
            go_wp2_with (first
              | (at_builtin; have _t := tok1; refine wpList_append_any _ rfl (.tmp 34) (.tmp 40) _ rfl w.heap.size 48 j0 _ 2 32 Try.underlying35 hj Hy.out hy1 hy2 rfl (by decide) _ 0 [] rfl (own_empty (heap_alloc_new _ _) (by simp)) w.heap.size _ i _ ((T.take i).flatMap rowC) rfl (HR1.out _ ((below_drewN (Below.refl _ _) _).alloc (by simp) _)) (flat_oneR _) (by simp only [maxLen]; omega) (by omega) (by simp) ?_; intro v1 w1 hown1 hg1 _; rw [Nat.zero_add, List.nil_append] at hown1; obtain ⟨HB1, t0⟩ := put_step1 hg1 HBT.out; clear tok1)
              | (at_builtin; have _t := tok2; refine wpList_append_own _ rfl (.tmp 42) (.tmp 46) _ rfl w.heap.size 48 j0 _ 2 32 Try.underlying35 hj Hy.out hy1 hy2 rfl (by decide) v1 _ _ rfl (hown1.alloc _) ⟨w1.heap.size, 0, none⟩ 1 1 (rowC (k, v)) rfl rfl (news_alloc _ _ _ _ _ rfl rfl) (rowC_one _) (by simp only [maxLen]; omega) (by omega) (by have := HB1.out.size; simp; omega) ?_; intro v2 w2 hown2 hg2 _; have hown1a := hown1; obtain ⟨HB2, t1⟩ := put_step3 hown1a hg2 HB1.out HBT.out; clear tok2)
              | (at_builtin; have _t := tok3; refine wpList_append_any _ rfl (.tmp 51) (.tmp 57) _ rfl w.heap.size 48 j0 _ 2 32 Try.underlying35 hj Hy.out hy1 hy2 rfl (by decide) v2 _ _ rfl hown2 w.heap.size _ (T.length - (i)) _ _ rfl (HR2.out _ HB2.out) (flat_oneR _) (by simp only [maxLen]; omega) (by omega) HB2.out.size ?_; intro v3 w3 hown3 hg3 _; have hown2a := hown2; obtain ⟨HB3, _, f0⟩ := put_step2 hown2a hg3 HB2.out HBT.out; obtain ⟨A3, c3, rfl⟩ := own_form hown3; clear tok3))
            go_ret
            refine ⟨rfl, rt_put HB3.out HBT.out hown3 ?_ ?_⟩
            · rw [HD.out, List.length_append, List.length_cons, List.length_take, List.length_drop]; omega
            · rw [HD.out, List.flatMap_append, List.flatMap_cons, List.append_assoc]
end Go.Proofs.Ythmkoehocjfjgaa
