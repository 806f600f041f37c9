/- the reference's Due. -/
import Derived.Test.YtnkbdkpeoaobeaaBase
import Derived.Test.YtnkbdkpeoaobeaaPlain20
import Derived.Test.YtnkbdkpeoaobeaaPlain20c
import Derived.Test.YtnkbdkpeoaobeaaSchedA
import Derived.Test.YtnkbdkpeoaobeaaSchedD
import Derived.Test.YtnkbdkpeoaobeaaSchedG
import Derived.Test.YtnkbdkpeoaobeaaSchedH
import Derived.Test.YtnkbdkpeoaobeaaSchedI

import Derived.Deep.Onto
import Derived.Deep.DeepCutAuto
import Derived.Deep.CutBlock
namespace Go.Proofs.Ytnkbdkpeoaobeaa
open Go.RowKit

theorem box_cells {w : World} {g : Nat} {cs : Array Value} {e : TypeId} (h : w.heap[g]? = some (.cells cs e (0, 0))) (i : Nat) : w.cell? ⟨g, i, none⟩ = cs[i]? := by simp [World.cell?, h]
theorem own_take {w : World} {base k n cap g : Nat} {e : TypeId} {xs : List Value} (h : w.ownsRow base e k (.slice (some ⟨g, 0, none⟩) n cap) n xs) (i : Nat) : ∀ j u, (xs.take i)[j]? = some u → w.cell? ((⟨g, 0, none⟩ : Addr).add j) = some u := fun j u hu => by
  refine h.cells rfl j u ?_
  rw [List.getElem?_take] at hu
  split at hu
  · exact hu
  · cases hu
theorem own_drop {w : World} {base k n cap g : Nat} {e : TypeId} {xs : List Value} (h : w.ownsRow base e k (.slice (some ⟨g, 0, none⟩) n cap) n xs) (i : Nat) : ∀ j u, (xs.drop i)[j]? = some u → w.cell? ((⟨g, i, none⟩ : Addr).add j) = some u := fun j u hu => by
  rw [List.getElem?_drop] at hu
  have := h.cells rfl (i + j) u hu
  rw [addr_add0] at this
  have e : (⟨g, i, none⟩ : Addr).add j = ⟨g, i + j, none⟩ := by unfold Addr.add; split <;> simp_all
  rw [e]; exact this
theorem flat_take {α β : Type} (enc : α → List β) (k : Nat) (hk : ∀ x, (enc x).length = k) : ∀ (l : List α) (i : Nat), (l.take i).flatMap enc = (l.flatMap enc).take (i * k)
  | [], i => by simp
  | x :: r, 0 => by simp
  | x :: r, i + 1 => by
    simp only [List.take_succ_cons, List.flatMap_cons]
    rw [List.take_append, hk, List.take_of_length_le (l := enc x) (by rw [hk, Nat.add_mul]; omega), flat_take enc k hk r i, show (i + 1) * k - k = i * k by rw [Nat.add_mul]; omega]
theorem flat_drop {α β : Type} (enc : α → List β) (k : Nat) (hk : ∀ x, (enc x).length = k) : ∀ (l : List α) (i : Nat), (l.drop i).flatMap enc = (l.flatMap enc).drop (i * k)
  | [], i => by simp
  | x :: r, 0 => by simp
  | x :: r, i + 1 => by
    simp only [List.drop_succ_cons, List.flatMap_cons]
    rw [List.drop_append, hk, List.drop_of_length_le (l := enc x) (by rw [hk, Nat.add_mul]; omega), List.nil_append, flat_drop enc k hk r i, show (i + 1) * k - k = i * k by rw [Nat.add_mul]; omega]
/-- behind an append onto a row of the call's own, the older rows and boxes are as they were -/
theorem keep_row {W w1 : World} {row : Option Nat} {base B k n cap g : Nat} {e : TypeId} {xs : List Value} (hg : W.grownBy w1 row) (h : W.ownsRow base e k (.slice (some ⟨g, 0, none⟩) n cap) n xs) (hr : ∀ r, row = some r → B ≤ r) (hlt : g < B) : w1.ownsRow base e k (.slice (some ⟨g, 0, none⟩) n cap) n xs :=
  h.kept hg (.inr (fun e => by have := hr g (by simpa [Value.ownBlock] using e.symm); omega))
theorem keep_box {W w1 : World} {row : Option Nat} {B g : Nat} {cs : Array Value} {e : TypeId} (hg : W.grownBy w1 row) (h : W.heap[g]? = some (.cells cs e (0, 0))) (hr : ∀ r, row = some r → B ≤ r) (hlt : g < B) : w1.heap[g]? = some (.cells cs e (0, 0)) :=
  (hg.block g (Array.getElem?_eq_some_iff.1 h).1 (fun e => by have := hr g e.symm; omega)).trans h
theorem insI_at {x : It} {l : List It} {j : Nat} (hall : (l.take j).all (fun y => !ltI x y) = true) (hst : ∀ y, l[j]? = some y → ltI x y = true) : insI x l = l.take j ++ x :: l.drop j := by
  have hall' : ∀ y ∈ l.take j, (fun y => !ltI x y) y = true := List.all_eq_true.1 hall
  have hd : (l.drop j).takeWhile (fun y => !ltI x y) = [] ∧ (l.drop j).dropWhile (fun y => !ltI x y) = l.drop j := by
    cases hc : l.drop j with
    | nil => exact ⟨rfl, rfl⟩
    | cons y r =>
      have hy : l[j]? = some y := by have := congrArg (fun l => l[0]?) hc; simpa [List.getElem?_drop] using this
      have e : ¬ (fun y => !ltI x y) y = true := by simp [hst y hy]
      exact ⟨List.takeWhile_cons_of_neg e, List.dropWhile_cons_of_neg e⟩
  unfold insI
  have h1 : l.takeWhile (fun y => !ltI x y) = l.take j := by
    conv => lhs; rw [← List.take_append_drop j l]
    rw [List.takeWhile_append_of_pos hall', hd.1, List.append_nil]
  have h2 : l.dropWhile (fun y => !ltI x y) = l.drop j := by
    conv => lhs; rw [← List.take_append_drop j l]
    rw [List.dropWhile_append_of_pos hall', hd.2]
  rw [h1, h2]
theorem own_cap {w : World} {base k n cap g : Nat} {e : TypeId} {xs : List Value} (h : w.ownsRow base e k (.slice (some ⟨g, 0, none⟩) n cap) n xs) : n ≤ cap := by
  rcases h.2 with ⟨h, _⟩ | ⟨g', cap', cur, h, _, _, h1, _⟩
  · cases h
  · injection h with _ _ h; omega
theorem own_alloc_q {w : World} {base k n : Nat} {e : TypeId} {v : Value} {xs : List Value} (h : w.ownsRow base e k v n xs) (q : Nat) (o : Obj) : ((w.drewN q).alloc o).ownsRow base e k v n xs := World.ownsRow.alloc (w := w.drewN q) h o
theorem flat_one (l : List It) : ∀ u ∈ l.flatMap It.cells, u.oneCell' = true := fun u hu => by
  obtain ⟨x, _, hx⟩ := List.mem_flatMap.1 hu
  exact x.cells_one u hx
theorem one_take {xs : List Value} (h : ∀ u ∈ xs, u.oneCell' = true) (i : Nat) : ∀ u ∈ xs.take i, u.oneCell' = true := fun u hu => h u (List.mem_of_mem_take hu)
theorem one_drop {xs : List Value} (h : ∀ u ∈ xs, u.oneCell' = true) (i : Nat) : ∀ u ∈ xs.drop i, u.oneCell' = true := fun u hu => h u (List.mem_of_mem_drop hu)
theorem due_step {wx w1 : World} {q base k n cap g gb : Nat} {e eb : TypeId} {a b c d : Value} {o : Obj} {xs : List Value} (h : wx.ownsRow base e k (.slice (some ⟨g, 0, none⟩) n cap) n xs) (hbx : wx.heap[gb]? = some (.cells #[a, b, c, d] eb (0, 0))) (hgx : g < wx.heap.size)
    (hg : ((wx.drewN q).alloc o).grownBy w1 (some wx.heap.size)) : w1.cell? ⟨gb, 0, none⟩ = some a ∧ w1.cell? ⟨gb, 1, none⟩ = some b ∧ w1.cell? ⟨gb, 2, none⟩ = some c ∧ w1.cell? ⟨gb, 3, none⟩ = some d ∧
      Hid (w1.heap[gb]? = some (.cells #[a, b, c, d] eb (0, 0))) ∧ w1.ownsRow base e k (.slice (some ⟨g, 0, none⟩) n cap) n xs ∧ wx.heap.size < w1.heap.size := by
  have hlt : gb < wx.heap.size := (Array.getElem?_eq_some_iff.1 hbx).1
  have hb : ((wx.drewN q).alloc o).heap[gb]? = some (.cells #[a, b, c, d] eb (0, 0)) := (Below.heap_alloc _ _ _ hlt).trans hbx
  have hb1 := keep_box (B := wx.heap.size) hg hb (fun r hr => by injection hr with hr; omega) hlt
  have hs := hg.size
  simp at hs
  exact ⟨box_cells hb1 0, box_cells hb1 1, box_cells hb1 2, box_cells hb1 3, hb1, keep_row (B := wx.heap.size) hg (own_alloc_q h q o) (fun r hr => by injection hr with hr; omega) hgx, by omega⟩
theorem dueI_snoc (h m : Int) (l : List It) (k : Nat) (hk : k < l.length) : dueI h m (l.take (k + 1)) = if goodI h m l[k] then insI l[k] (dueI h m (l.take k)) else dueI h m (l.take k) := by
  unfold dueI insAll
  rw [List.take_succ_eq_append_getElem hk, List.filter_append, List.foldl_append]
  cases hg : goodI h m l[k] <;> simp [List.filter_cons, hg]
set_option maxRecDepth 100000 in
set_option maxHeartbeats 16000000 in
theorem rDue (A : Option Addr) (l : List It) (c : Nat) (h m : Int) (w : World) (hl : l.length ≤ 4096) (hok : ∀ x ∈ l, x.ok ∧ x.ch.size ≤ maxLen) (hm : 0 ≤ m) (hm1 : m ≤ 1099511627776) (hs : Sl w w.heap.size 4 It.cells A l) :
    Calls Try.prog 18 #[.slice A l.length c, .int .i64 h, .int .i64 m] w fun e w' => ∃ v, e = .returned v ∧ w'.ownsRow w.heap.size 9 1 v (dueI h m l).length (((dueI h m l).map It.ch).map Value.string) ∧ Below w.heap.size w w' := by
  obtain ⟨i0, hi, hz0, hz1, hz2⟩ := info_parts info9
  obtain ⟨j0, hj', hy0, hy1, hy2⟩ := info_parts info54
  have Hz := Lib.hid hz0
  have Hy := Lib.hid hy0
  clear hz0 hy0
  go_enter Try.func18, Try.ntmps18
  go_wp2
  go_loopw [7, 8, 9, 10, 11] (fun v i _ _ _ wr => ∃ k g cap : Nat, k ≤ l.length ∧ i = .int .i64 k ∧ v = .slice (some ⟨g, 0, none⟩) (dueI h m (l.take k)).length cap ∧ wr.ownsRow w.heap.size 54 4 v (dueI h m (l.take k)).length ((dueI h m (l.take k)).flatMap It.cells) ∧ Below w.heap.size w wr) (fun _ i _ _ _ _ => l.length - (intOf i).toNat)
  case atStart => exact ⟨0, w.heap.size, 0, Nat.zero_le _, rfl, rfl, own_empty (heap_alloc_new _ _) (Nat.le_refl _), (Below.refl _ _).alloc (Nat.le_refl _) _⟩
  case round =>
    obtain ⟨k, g, cap, hk, rfl, rfl, hown, hb⟩ := hrel
    have hB := hb.size
    by_cases hlt : k < l.length
    · obtain ⟨b, off, rfl, hbB, hc⟩ := (hs.below hb).at_ hlt
      have hx0 := hok _ (List.getElem_mem hlt)
      generalize hx : l[k] = x at hc hx0
      have Hx := Lib.hid hx
      clear hx
      have hc0 : wr.cell? ⟨b, off + k * 4, none⟩ = some (.string x.ch) := hc 0 _ rfl
      have hc1 : wr.cell? ⟨b, off + k * 4 + 1, none⟩ = some (.int .i64 x.ex) := hc 1 _ rfl
      have hc2 : wr.cell? ⟨b, off + k * 4 + 2, none⟩ = some (.int .u64 x.wo) := hc 2 _ rfl
      have hc3 : wr.cell? ⟨b, off + k * 4 + 3, none⟩ = some (.bool x.cl) := hc 3 _ rfl
      clear hc hs
      obtain ⟨⟨o1, o2, o3, o4⟩, o5⟩ := hx0
      have HS := Lib.hid (dueI_snoc h m l k hlt)
      have hdl : (dueI h m (l.take k)).length ≤ k := by
        rw [(dueI_perm h m _).length_eq]; exact Nat.le_trans (List.length_filter_le _ _) (List.length_take_le _ _)
      have hinok : ∀ y ∈ dueI h m (l.take k), y.ok ∧ y.ch.size ≤ maxLen := fun y hy => hok y (List.mem_of_mem_take (List.mem_filter.1 ((dueI_perm h m _).mem_iff.1 hy)).1)
      generalize dueI h m (l.take k) = inl at hown HS hdl hinok ⊢
      generalize hcl : x.cl = bcl at hc3
      have Hcl := Lib.hid hcl
      clear hcl hok
      by_cases hw : 10 < x.wo
      · cases bcl
        · by_cases hd : deadl x.ex m ≤ h
          · go_upto_block 2 with (go_at_call 13; refine (rDeadline x.ex m _ o1 (by omega) hm hm1).mono ?_; rintro e w' ⟨rfl, rfl⟩)
            have hownx := hown.alloc (.cells #[.string x.ch, .int .i64 x.ex, .int .u64 x.wo, .bool false] 54)
            have hbx : (wr.alloc (.cells #[.string x.ch, .int .i64 x.ex, .int .u64 x.wo, .bool false] 54)).heap[wr.heap.size]? = _ := heap_alloc_new _ _
            have hszx : wr.heap.size < (wr.alloc (.cells #[.string x.ch, .int .i64 x.ex, .int .u64 x.wo, .bool false] 54)).heap.size := by simp
            have hbelx := hb.alloc hB (.cells #[.string x.ch, .int .i64 x.ex, .int .u64 x.wo, .bool false] 54)
            generalize wr.alloc (.cells #[.string x.ch, .int .i64 x.ex, .int .u64 x.wo, .bool false] 54) = wx at hownx hbx hszx hbelx ⊢
            have hx0 : wx.cell? ⟨wr.heap.size, 0, none⟩ = some (.string x.ch) := box_cells hbx 0
            have hx1 : wx.cell? ⟨wr.heap.size, 1, none⟩ = some (.int .i64 x.ex) := box_cells hbx 1
            have hx2 : wx.cell? ⟨wr.heap.size, 2, none⟩ = some (.int .u64 x.wo) := box_cells hbx 2
            have hx3 : wx.cell? ⟨wr.heap.size, 3, none⟩ = some (.bool false) := box_cells hbx 3
            have HBX := Lib.hid hbx
            clear hbx hc0 hc1 hc2 hc3
            have hsin := Sl.of_own It.cells_len hownx
            go_cut [10] (fun i w' => ∃ j q : Nat, j ≤ inl.length ∧ i = .int .i64 j ∧ Hid (insI x inl = inl.take j ++ x :: inl.drop j) ∧ w' = wx.drewN q)
            case first =>
              go_wp2_with fail
              go_loopw [10] (fun i w' => ∃ j q : Nat, j ≤ inl.length ∧ i = .int .i64 j ∧ (inl.take j).all (fun y => !ltI x y) = true ∧ w' = wx.drewN q) (fun i _ => inl.length - (intOf i).toNat)
              case atStart => exact ⟨0, 0, Nat.zero_le _, rfl, rfl, rfl⟩
              case round =>
                obtain ⟨j, q, hj, rfl, hall, rfl⟩ := hrel
                have HALL := Lib.hid hall
                clear hall
                by_cases hjl : j < inl.length
                · obtain ⟨b', off', e', hb', hcy⟩ := hsin.at_ hjl
                  have HTJ := Lib.hid (List.take_succ_eq_append_getElem hjl)
                  have hy0 := hinok _ (List.getElem_mem hjl)
                  generalize hy : inl[j] = y at hcy HTJ hy0
                  have Hy' := Lib.hid hy
                  clear hy
                  injection e' with e'
                  injection e' with e1 e2
                  subst e1 e2
                  have hc0 : wx.cell? ⟨g, j * 4, none⟩ = some (.string y.ch) := by have := hcy 0 _ rfl; simpa using this
                  have hc1 : wx.cell? ⟨g, j * 4 + 1, none⟩ = some (.int .i64 y.ex) := by have := hcy 1 _ rfl; simpa using this
                  clear hcy
                  obtain ⟨⟨p1, p2, _, _⟩, p5⟩ := hy0
                  by_cases ha : y.ex < x.ex
                  · have HL : Hid (ltI x y = false) := by show ltI x y = false; simp only [ltI, Bool.or_eq_false_iff, Bool.and_eq_false_iff, decide_eq_false_iff_not]; exact ⟨by omega, .inl (by omega)⟩
                    have hl1 : decide (y.ex < x.ex) = true := decide_eq_true ha
                    go_wp2_with fail
                    go_quiet (fail)
                    go_wp2_with fail
                    go_roundw
                    case rel => exact ⟨j + 1, _, by omega, by go_num, by rw [HTJ.out, List.all_append, HALL.out]; simp [HL.out], rfl⟩
                    case measure => simp [intOf]; omega
                  · by_cases hb2 : x.ex < y.ex
                    · have HL : Hid (ltI x y = true) := by show ltI x y = true; simp only [ltI, Bool.or_eq_true, decide_eq_true_eq]; exact .inl hb2
                      have HJ := Lib.hid (insI_at (x := x) HALL.out (fun z hz => by rw [List.getElem?_eq_getElem hjl, Hy'.out] at hz; injection hz with hz; rw [← hz]; exact HL.out))
                      have hq : (y.ex == x.ex) = false := beq_eq_false_iff_ne.2 (by omega)
                      have hl1 : decide (y.ex < x.ex) = false := decide_eq_false (by omega)
                      clear ha
                      go_wp2_with fail
                      go_quiet (fail)
                      go_wp2_with fail
                      go_meet
                      exact ⟨j, _, by omega, rfl, HJ, by rw [World.drewN_drewN]⟩
                    · have hxy : x.ex = y.ex := by omega
                      have hc1' : wx.cell? ⟨g, j * 4 + 1, none⟩ = some (.int .i64 x.ex) := by rw [hc1]; exact congrArg (fun z => some (Value.int .i64 z)) (by omega)
                      have HXY := Lib.hid hxy
                      clear hc1 hxy ha hb2
                      cases hB3 : ltB x.chl y.chl
                      · have HL : Hid (ltI x y = false) := by show ltI x y = false; simp only [ltI, hB3, Bool.and_false, Bool.or_false, decide_eq_false_iff_not]; rw [HXY.out]; omega
                        have HB3 : Hid (ltB x.ch.data.toList y.ch.data.toList = false) := hB3
                        clear hB3
                        go_wp2_with fail
                        go_quiet (((go_at_call 26; exact quiet_add (rLess_v x.ch y.ch false _ o5 p5 HB3.out))))
                        go_wp2_with fail
                        go_roundw
                        case rel => exact ⟨j + 1, _, by omega, by go_num, by rw [HTJ.out, List.all_append, HALL.out]; simp [HL.out], rfl⟩
                        case measure => simp [intOf]; omega
                      · have HL : Hid (ltI x y = true) := by show ltI x y = true; simp only [ltI, hB3, Bool.and_true, Bool.or_eq_true, decide_eq_true_eq]; exact .inr HXY.out
                        have HB3 : Hid (ltB x.ch.data.toList y.ch.data.toList = true) := hB3
                        clear hB3
                        have HJ := Lib.hid (insI_at (x := x) HALL.out (fun z hz => by rw [List.getElem?_eq_getElem hjl, Hy'.out] at hz; injection hz with hz; rw [← hz]; exact HL.out))
                        go_wp2_with fail
                        go_quiet (((go_at_call 26; exact quiet_add (rLess_v x.ch y.ch true _ o5 p5 HB3.out))))
                        go_wp2_with fail
                        go_meet
                        exact ⟨j, _, by omega, rfl, HJ, by rw [World.drewN_drewN]⟩
                · have HJ := Lib.hid (insI_at (x := x) HALL.out (fun z hz => by rw [List.getElem?_eq_none (by omega)] at hz; cases hz))
                  go_wp2_with fail
                  go_quiet (fail)
                  go_wp2_with fail
                  go_meet
                  exact ⟨j, _, by omega, rfl, HJ, by rw [World.drewN_drewN]⟩
            case rest =>
              obtain ⟨j, q, hjl, rfl, HJ, rfl⟩ := hcut
              have HXC : Hid (x.cells = [.string x.ch, .int .i64 x.ex, .int .u64 x.wo, .bool false]) := by show _ = _; rw [It.cells, Hcl.out]
              have hgx : g < wx.heap.size := (hownx.lt g rfl).2
              have hgr : g < wr.heap.size := (hown.lt g rfl).2
              have hcap := own_cap hownx
              have HN : Hid (dueI h m (l.take (k + 1)) = inl.take j ++ x :: inl.drop j) := by
                show _ = _
                rw [HS.out, if_pos (by simp only [goodI, Hx.out, Hcl.out]; simp [hw, hd]), Hx.out, HJ.out]
              clear hx0 hx1 hx2 hx3 hsin hinok
              by_cases hcj : cap = j
              · obtain rfl : j = inl.length := by omega
                subst hcj
                have tok1 : True := trivial
                have tok2 : True := trivial
                have tok3 : True := trivial
                go_wp2_with (first | (at_builtin; have _t := tok1; refine wpList_append_own _ rfl (.tmp 78) (.tmp 81) _ rfl wx.heap.size 54 j0 _ 4 40 Try.underlying25 hj' Hy.out hy1 hy2 rfl (by decide) _ 0 [] rfl (own_empty (heap_alloc_new (wx.drewN _) _) (Nat.le_refl _)) ⟨g, 0, none⟩ inl.length _ ((inl.flatMap It.cells).take (inl.length * 4)) rfl (by rw [List.length_take, hownx.1]; omega) (own_take (own_alloc_q hownx _ _) (inl.length * 4)) (one_take (flat_one inl) _) (by simp only [maxLen]; omega) (by omega) (by simp) ?_; intro v1 w1 hown1 hg1 _; clear tok1; obtain ⟨hx0, hx1, hx2, hx3, HBX1, hown1x, hsz1⟩ := due_step hownx HBX.out hgx hg1) | (at_builtin; have _t := tok2; refine wpList_append_own _ rfl (.tmp 83) (.tmp 85) _ rfl wx.heap.size 54 j0 _ 4 40 Try.underlying25 hj' Hy.out hy1 hy2 rfl (by decide) v1 _ _ rfl (hown1.alloc _) ⟨w1.heap.size, 0, none⟩ 1 1 x.cells rfl rfl (news_alloc _ _ _ _ _ HXC.out.symm rfl) x.cells_one (by simp only [maxLen]; omega) (by omega) (by simp; omega) ?_; intro v2 w2 hown2 hg2 _; have hown2x := keep_row (B := wx.heap.size) hg2 (hown1x.alloc _) (fun r hr => (hown1.lt r hr).1) hgx; clear tok2 hx0 hx1 hx2 hx3; have hsz2 := hg2.size; simp at hsz2) | (at_builtin; have _t := tok3; refine wpList_append_own _ rfl (.tmp 87) (.tmp 90) _ rfl wx.heap.size 54 j0 _ 4 40 Try.underlying25 hj' Hy.out hy1 hy2 rfl (by decide) v2 _ _ rfl hown2 ⟨g, 0, none⟩ 0 0 ((inl.flatMap It.cells).drop (inl.length * 4)) rfl (by first | (simp [hownx.1]; done) | (simp [hownx.1]; omega)) (fun j' u hu => by rw [List.drop_of_length_le (by rw [hownx.1]; exact Nat.le_refl _)] at hu; simp at hu) (one_drop (flat_one inl) _) (by simp only [maxLen]; omega) (by omega) (by omega) ?_; intro v3 w3 hown3 hg3 _; clear tok3))
                have hlen : (dueI h m (l.take (k + 1))).length = 0 + inl.length + 1 + 0 := by rw [HN.out]; first | (simp; done) | (simp; omega)
                obtain ⟨g3, cap3, hv3, _⟩ := hown3.form (by omega)
                go_roundw
                case rel =>
                  refine ⟨k + 1, g3, cap3, by omega, by go_num, by rw [hlen, hv3], ?_, ?_⟩
                  · rw [hlen, HN.out, List.flatMap_append, List.flatMap_cons, flat_take It.cells 4 It.cells_len, flat_drop It.cells 4 It.cells_len]
                    have := hown3.mono (base' := w.heap.size) (by omega)
                    simpa using this
                  · have b0 := (below_drewN hbelx q).alloc (by simp; omega) (.cells #[] 54)
                    have b1 := b0.grown hg1 (by simp; omega) (fun r hr => by have hr' : some wx.heap.size = some r := hr; injection hr' with hr'; omega)
                    have b3 := (b1.alloc (by omega) _).grown hg2 (by simp; omega) (fun r hr => by have := (hown1.lt r hr).1; omega)
                    exact b3.grown hg3 (by omega) (fun r hr => by have := (hown2.lt r hr).1; omega)
                case measure => simp [intOf]; omega
              · have tok1 : True := trivial
                have tok2 : True := trivial
                have tok3 : True := trivial
                go_wp2_with (first | (at_builtin; have _t := tok1; refine wpList_append_own _ rfl (.tmp 78) (.tmp 81) _ rfl wx.heap.size 54 j0 _ 4 40 Try.underlying25 hj' Hy.out hy1 hy2 rfl (by decide) _ 0 [] rfl (own_empty (heap_alloc_new (wx.drewN _) _) (Nat.le_refl _)) ⟨g, 0, none⟩ j _ ((inl.flatMap It.cells).take (j * 4)) rfl (by rw [List.length_take, hownx.1]; omega) (own_take (own_alloc_q hownx _ _) (j * 4)) (one_take (flat_one inl) _) (by simp only [maxLen]; omega) (by omega) (by simp) ?_; intro v1 w1 hown1 hg1 _; clear tok1; obtain ⟨hx0, hx1, hx2, hx3, HBX1, hown1x, hsz1⟩ := due_step hownx HBX.out hgx hg1) | (at_builtin; have _t := tok2; refine wpList_append_own _ rfl (.tmp 83) (.tmp 85) _ rfl wx.heap.size 54 j0 _ 4 40 Try.underlying25 hj' Hy.out hy1 hy2 rfl (by decide) v1 _ _ rfl (hown1.alloc _) ⟨w1.heap.size, 0, none⟩ 1 1 x.cells rfl rfl (news_alloc _ _ _ _ _ HXC.out.symm rfl) x.cells_one (by simp only [maxLen]; omega) (by omega) (by simp; omega) ?_; intro v2 w2 hown2 hg2 _; have hown2x := keep_row (B := wx.heap.size) hg2 (hown1x.alloc _) (fun r hr => (hown1.lt r hr).1) hgx; clear tok2 hx0 hx1 hx2 hx3; have hsz2 := hg2.size; simp at hsz2) | (at_builtin; have _t := tok3; refine wpList_append_own _ rfl (.tmp 87) (.tmp 90) _ rfl wx.heap.size 54 j0 _ 4 40 Try.underlying25 hj' Hy.out hy1 hy2 rfl (by decide) v2 _ _ rfl hown2 ⟨g, j * 4, none⟩ (inl.length - j) (cap - j) ((inl.flatMap It.cells).drop (j * 4)) rfl (by first | (simp [hownx.1]; done) | (simp [hownx.1]; omega)) (own_drop hown2x (j * 4)) (one_drop (flat_one inl) _) (by simp only [maxLen]; omega) (by omega) (by omega) ?_; intro v3 w3 hown3 hg3 _; clear tok3))
                have hlen : (dueI h m (l.take (k + 1))).length = 0 + j + 1 + (inl.length - j) := by rw [HN.out]; first | (simp; done) | (simp; omega)
                obtain ⟨g3, cap3, hv3, _⟩ := hown3.form (by omega)
                go_roundw
                case rel =>
                  refine ⟨k + 1, g3, cap3, by omega, by go_num, by rw [hlen, hv3], ?_, ?_⟩
                  · rw [hlen, HN.out, List.flatMap_append, List.flatMap_cons, flat_take It.cells 4 It.cells_len, flat_drop It.cells 4 It.cells_len]
                    have := hown3.mono (base' := w.heap.size) (by omega)
                    simpa using this
                  · have b0 := (below_drewN hbelx q).alloc (by simp; omega) (.cells #[] 54)
                    have b1 := b0.grown hg1 (by simp; omega) (fun r hr => by have hr' : some wx.heap.size = some r := hr; injection hr' with hr'; omega)
                    have b3 := (b1.alloc (by omega) _).grown hg2 (by simp; omega) (fun r hr => by have := (hown1.lt r hr).1; omega)
                    exact b3.grown hg3 (by omega) (fun r hr => by have := (hown2.lt r hr).1; omega)
                case measure => simp [intOf]; omega
          · go_wp2_with (go_at_call 13; refine (rDeadline x.ex m _ o1 (by omega) hm hm1).mono ?_; rintro e w' ⟨rfl, rfl⟩)
            go_roundw
            case rel =>
              have HN : dueI h m (l.take (k + 1)) = inl := by rw [HS.out, if_neg]; simp [goodI, Hx.out, Hcl.out, hd]
              exact ⟨k + 1, g, cap, by omega, by go_num, by rw [HN], by rw [HN]; exact hown.alloc _, hb.alloc hB _⟩
            case measure => simp [intOf]; omega
        · go_upto_block 2 with (go_at_call 13; refine (rDeadline x.ex m _ o1 (by omega) hm hm1).mono ?_; rintro e w' ⟨rfl, rfl⟩)
          have hownx := hown.alloc (.cells #[.string x.ch, .int .i64 x.ex, .int .u64 x.wo, .bool true] 54)
          have hbx : (wr.alloc (.cells #[.string x.ch, .int .i64 x.ex, .int .u64 x.wo, .bool true] 54)).heap[wr.heap.size]? = _ := heap_alloc_new _ _
          have hszx : wr.heap.size < (wr.alloc (.cells #[.string x.ch, .int .i64 x.ex, .int .u64 x.wo, .bool true] 54)).heap.size := by simp
          have hbelx := hb.alloc hB (.cells #[.string x.ch, .int .i64 x.ex, .int .u64 x.wo, .bool true] 54)
          generalize wr.alloc (.cells #[.string x.ch, .int .i64 x.ex, .int .u64 x.wo, .bool true] 54) = wx at hownx hbx hszx hbelx ⊢
          have hx0 : wx.cell? ⟨wr.heap.size, 0, none⟩ = some (.string x.ch) := box_cells hbx 0
          have hx1 : wx.cell? ⟨wr.heap.size, 1, none⟩ = some (.int .i64 x.ex) := box_cells hbx 1
          have hx2 : wx.cell? ⟨wr.heap.size, 2, none⟩ = some (.int .u64 x.wo) := box_cells hbx 2
          have hx3 : wx.cell? ⟨wr.heap.size, 3, none⟩ = some (.bool true) := box_cells hbx 3
          have HBX := Lib.hid hbx
          clear hbx hc0 hc1 hc2 hc3
          have hsin := Sl.of_own It.cells_len hownx
          go_cut [10] (fun i w' => ∃ j q : Nat, j ≤ inl.length ∧ i = .int .i64 j ∧ Hid (insI x inl = inl.take j ++ x :: inl.drop j) ∧ w' = wx.drewN q)
          case first =>
            go_wp2_with fail
            go_loopw [10] (fun i w' => ∃ j q : Nat, j ≤ inl.length ∧ i = .int .i64 j ∧ (inl.take j).all (fun y => !ltI x y) = true ∧ w' = wx.drewN q) (fun i _ => inl.length - (intOf i).toNat)
            case atStart => exact ⟨0, 0, Nat.zero_le _, rfl, rfl, rfl⟩
            case round =>
              obtain ⟨j, q, hj, rfl, hall, rfl⟩ := hrel
              have HALL := Lib.hid hall
              clear hall
              by_cases hjl : j < inl.length
              · obtain ⟨b', off', e', hb', hcy⟩ := hsin.at_ hjl
                have HTJ := Lib.hid (List.take_succ_eq_append_getElem hjl)
                have hy0 := hinok _ (List.getElem_mem hjl)
                generalize hy : inl[j] = y at hcy HTJ hy0
                have Hy' := Lib.hid hy
                clear hy
                injection e' with e'
                injection e' with e1 e2
                subst e1 e2
                have hc0 : wx.cell? ⟨g, j * 4, none⟩ = some (.string y.ch) := by have := hcy 0 _ rfl; simpa using this
                have hc1 : wx.cell? ⟨g, j * 4 + 1, none⟩ = some (.int .i64 y.ex) := by have := hcy 1 _ rfl; simpa using this
                clear hcy
                obtain ⟨⟨p1, p2, _, _⟩, p5⟩ := hy0
                by_cases ha : y.ex < x.ex
                · have HL : Hid (ltI x y = false) := by show ltI x y = false; simp only [ltI, Bool.or_eq_false_iff, Bool.and_eq_false_iff, decide_eq_false_iff_not]; exact ⟨by omega, .inl (by omega)⟩
                  have hl1 : decide (y.ex < x.ex) = true := decide_eq_true ha
                  go_wp2_with fail
                  go_quiet (fail)
                  go_wp2_with fail
                  go_roundw
                  case rel => exact ⟨j + 1, _, by omega, by go_num, by rw [HTJ.out, List.all_append, HALL.out]; simp [HL.out], rfl⟩
                  case measure => simp [intOf]; omega
                · by_cases hb2 : x.ex < y.ex
                  · have HL : Hid (ltI x y = true) := by show ltI x y = true; simp only [ltI, Bool.or_eq_true, decide_eq_true_eq]; exact .inl hb2
                    have HJ := Lib.hid (insI_at (x := x) HALL.out (fun z hz => by rw [List.getElem?_eq_getElem hjl, Hy'.out] at hz; injection hz with hz; rw [← hz]; exact HL.out))
                    have hq : (y.ex == x.ex) = false := beq_eq_false_iff_ne.2 (by omega)
                    have hl1 : decide (y.ex < x.ex) = false := decide_eq_false (by omega)
                    clear ha
                    go_wp2_with fail
                    go_quiet (fail)
                    go_wp2_with fail
                    go_meet
                    exact ⟨j, _, by omega, rfl, HJ, by rw [World.drewN_drewN]⟩
                  · have hxy : x.ex = y.ex := by omega
                    have hc1' : wx.cell? ⟨g, j * 4 + 1, none⟩ = some (.int .i64 x.ex) := by rw [hc1]; exact congrArg (fun z => some (Value.int .i64 z)) (by omega)
                    have HXY := Lib.hid hxy
                    clear hc1 hxy ha hb2
                    cases hB3 : ltB x.chl y.chl
                    · have HL : Hid (ltI x y = false) := by show ltI x y = false; simp only [ltI, hB3, Bool.and_false, Bool.or_false, decide_eq_false_iff_not]; rw [HXY.out]; omega
                      have HB3 : Hid (ltB x.ch.data.toList y.ch.data.toList = false) := hB3
                      clear hB3
                      go_wp2_with fail
                      go_quiet (((go_at_call 26; exact quiet_add (rLess_v x.ch y.ch false _ o5 p5 HB3.out))))
                      go_wp2_with fail
                      go_roundw
                      case rel => exact ⟨j + 1, _, by omega, by go_num, by rw [HTJ.out, List.all_append, HALL.out]; simp [HL.out], rfl⟩
                      case measure => simp [intOf]; omega
                    · have HL : Hid (ltI x y = true) := by show ltI x y = true; simp only [ltI, hB3, Bool.and_true, Bool.or_eq_true, decide_eq_true_eq]; exact .inr HXY.out
                      have HB3 : Hid (ltB x.ch.data.toList y.ch.data.toList = true) := hB3
                      clear hB3
                      have HJ := Lib.hid (insI_at (x := x) HALL.out (fun z hz => by rw [List.getElem?_eq_getElem hjl, Hy'.out] at hz; injection hz with hz; rw [← hz]; exact HL.out))
                      go_wp2_with fail
                      go_quiet (((go_at_call 26; exact quiet_add (rLess_v x.ch y.ch true _ o5 p5 HB3.out))))
                      go_wp2_with fail
                      go_meet
                      exact ⟨j, _, by omega, rfl, HJ, by rw [World.drewN_drewN]⟩
              · have HJ := Lib.hid (insI_at (x := x) HALL.out (fun z hz => by rw [List.getElem?_eq_none (by omega)] at hz; cases hz))
                go_wp2_with fail
                go_quiet (fail)
                go_wp2_with fail
                go_meet
                exact ⟨j, _, by omega, rfl, HJ, by rw [World.drewN_drewN]⟩
          case rest =>
            obtain ⟨j, q, hjl, rfl, HJ, rfl⟩ := hcut
            have HXC : Hid (x.cells = [.string x.ch, .int .i64 x.ex, .int .u64 x.wo, .bool true]) := by show _ = _; rw [It.cells, Hcl.out]
            have hgx : g < wx.heap.size := (hownx.lt g rfl).2
            have hgr : g < wr.heap.size := (hown.lt g rfl).2
            have hcap := own_cap hownx
            have HN : Hid (dueI h m (l.take (k + 1)) = inl.take j ++ x :: inl.drop j) := by
              show _ = _
              rw [HS.out, if_pos (by simp only [goodI, Hx.out, Hcl.out]; simp [hw, hw]), Hx.out, HJ.out]
            clear hx0 hx1 hx2 hx3 hsin hinok
            by_cases hcj : cap = j
            · obtain rfl : j = inl.length := by omega
              subst hcj
              have tok1 : True := trivial
              have tok2 : True := trivial
              have tok3 : True := trivial
              go_wp2_with (first | (at_builtin; have _t := tok1; refine wpList_append_own _ rfl (.tmp 78) (.tmp 81) _ rfl wx.heap.size 54 j0 _ 4 40 Try.underlying25 hj' Hy.out hy1 hy2 rfl (by decide) _ 0 [] rfl (own_empty (heap_alloc_new (wx.drewN _) _) (Nat.le_refl _)) ⟨g, 0, none⟩ inl.length _ ((inl.flatMap It.cells).take (inl.length * 4)) rfl (by rw [List.length_take, hownx.1]; omega) (own_take (own_alloc_q hownx _ _) (inl.length * 4)) (one_take (flat_one inl) _) (by simp only [maxLen]; omega) (by omega) (by simp) ?_; intro v1 w1 hown1 hg1 _; clear tok1; obtain ⟨hx0, hx1, hx2, hx3, HBX1, hown1x, hsz1⟩ := due_step hownx HBX.out hgx hg1) | (at_builtin; have _t := tok2; refine wpList_append_own _ rfl (.tmp 83) (.tmp 85) _ rfl wx.heap.size 54 j0 _ 4 40 Try.underlying25 hj' Hy.out hy1 hy2 rfl (by decide) v1 _ _ rfl (hown1.alloc _) ⟨w1.heap.size, 0, none⟩ 1 1 x.cells rfl rfl (news_alloc _ _ _ _ _ HXC.out.symm rfl) x.cells_one (by simp only [maxLen]; omega) (by omega) (by simp; omega) ?_; intro v2 w2 hown2 hg2 _; have hown2x := keep_row (B := wx.heap.size) hg2 (hown1x.alloc _) (fun r hr => (hown1.lt r hr).1) hgx; clear tok2 hx0 hx1 hx2 hx3; have hsz2 := hg2.size; simp at hsz2) | (at_builtin; have _t := tok3; refine wpList_append_own _ rfl (.tmp 87) (.tmp 90) _ rfl wx.heap.size 54 j0 _ 4 40 Try.underlying25 hj' Hy.out hy1 hy2 rfl (by decide) v2 _ _ rfl hown2 ⟨g, 0, none⟩ 0 0 ((inl.flatMap It.cells).drop (inl.length * 4)) rfl (by first | (simp [hownx.1]; done) | (simp [hownx.1]; omega)) (fun j' u hu => by rw [List.drop_of_length_le (by rw [hownx.1]; exact Nat.le_refl _)] at hu; simp at hu) (one_drop (flat_one inl) _) (by simp only [maxLen]; omega) (by omega) (by omega) ?_; intro v3 w3 hown3 hg3 _; clear tok3))
              have hlen : (dueI h m (l.take (k + 1))).length = 0 + inl.length + 1 + 0 := by rw [HN.out]; first | (simp; done) | (simp; omega)
              obtain ⟨g3, cap3, hv3, _⟩ := hown3.form (by omega)
              go_roundw
              case rel =>
                refine ⟨k + 1, g3, cap3, by omega, by go_num, by rw [hlen, hv3], ?_, ?_⟩
                · rw [hlen, HN.out, List.flatMap_append, List.flatMap_cons, flat_take It.cells 4 It.cells_len, flat_drop It.cells 4 It.cells_len]
                  have := hown3.mono (base' := w.heap.size) (by omega)
                  simpa using this
                · have b0 := (below_drewN hbelx q).alloc (by simp; omega) (.cells #[] 54)
                  have b1 := b0.grown hg1 (by simp; omega) (fun r hr => by have hr' : some wx.heap.size = some r := hr; injection hr' with hr'; omega)
                  have b3 := (b1.alloc (by omega) _).grown hg2 (by simp; omega) (fun r hr => by have := (hown1.lt r hr).1; omega)
                  exact b3.grown hg3 (by omega) (fun r hr => by have := (hown2.lt r hr).1; omega)
              case measure => simp [intOf]; omega
            · have tok1 : True := trivial
              have tok2 : True := trivial
              have tok3 : True := trivial
              go_wp2_with (first | (at_builtin; have _t := tok1; refine wpList_append_own _ rfl (.tmp 78) (.tmp 81) _ rfl wx.heap.size 54 j0 _ 4 40 Try.underlying25 hj' Hy.out hy1 hy2 rfl (by decide) _ 0 [] rfl (own_empty (heap_alloc_new (wx.drewN _) _) (Nat.le_refl _)) ⟨g, 0, none⟩ j _ ((inl.flatMap It.cells).take (j * 4)) rfl (by rw [List.length_take, hownx.1]; omega) (own_take (own_alloc_q hownx _ _) (j * 4)) (one_take (flat_one inl) _) (by simp only [maxLen]; omega) (by omega) (by simp) ?_; intro v1 w1 hown1 hg1 _; clear tok1; obtain ⟨hx0, hx1, hx2, hx3, HBX1, hown1x, hsz1⟩ := due_step hownx HBX.out hgx hg1) | (at_builtin; have _t := tok2; refine wpList_append_own _ rfl (.tmp 83) (.tmp 85) _ rfl wx.heap.size 54 j0 _ 4 40 Try.underlying25 hj' Hy.out hy1 hy2 rfl (by decide) v1 _ _ rfl (hown1.alloc _) ⟨w1.heap.size, 0, none⟩ 1 1 x.cells rfl rfl (news_alloc _ _ _ _ _ HXC.out.symm rfl) x.cells_one (by simp only [maxLen]; omega) (by omega) (by simp; omega) ?_; intro v2 w2 hown2 hg2 _; have hown2x := keep_row (B := wx.heap.size) hg2 (hown1x.alloc _) (fun r hr => (hown1.lt r hr).1) hgx; clear tok2 hx0 hx1 hx2 hx3; have hsz2 := hg2.size; simp at hsz2) | (at_builtin; have _t := tok3; refine wpList_append_own _ rfl (.tmp 87) (.tmp 90) _ rfl wx.heap.size 54 j0 _ 4 40 Try.underlying25 hj' Hy.out hy1 hy2 rfl (by decide) v2 _ _ rfl hown2 ⟨g, j * 4, none⟩ (inl.length - j) (cap - j) ((inl.flatMap It.cells).drop (j * 4)) rfl (by first | (simp [hownx.1]; done) | (simp [hownx.1]; omega)) (own_drop hown2x (j * 4)) (one_drop (flat_one inl) _) (by simp only [maxLen]; omega) (by omega) (by omega) ?_; intro v3 w3 hown3 hg3 _; clear tok3))
              have hlen : (dueI h m (l.take (k + 1))).length = 0 + j + 1 + (inl.length - j) := by rw [HN.out]; first | (simp; done) | (simp; omega)
              obtain ⟨g3, cap3, hv3, _⟩ := hown3.form (by omega)
              go_roundw
              case rel =>
                refine ⟨k + 1, g3, cap3, by omega, by go_num, by rw [hlen, hv3], ?_, ?_⟩
                · rw [hlen, HN.out, List.flatMap_append, List.flatMap_cons, flat_take It.cells 4 It.cells_len, flat_drop It.cells 4 It.cells_len]
                  have := hown3.mono (base' := w.heap.size) (by omega)
                  simpa using this
                · have b0 := (below_drewN hbelx q).alloc (by simp; omega) (.cells #[] 54)
                  have b1 := b0.grown hg1 (by simp; omega) (fun r hr => by have hr' : some wx.heap.size = some r := hr; injection hr' with hr'; omega)
                  have b3 := (b1.alloc (by omega) _).grown hg2 (by simp; omega) (fun r hr => by have := (hown1.lt r hr).1; omega)
                  exact b3.grown hg3 (by omega) (fun r hr => by have := (hown2.lt r hr).1; omega)
              case measure => simp [intOf]; omega
      · go_wp2
        go_roundw
        case rel =>
          have HN : dueI h m (l.take (k + 1)) = inl := by rw [HS.out, if_neg]; simp [goodI, Hx.out, hw]
          exact ⟨k + 1, g, cap, by omega, by go_num, by rw [HN], by rw [HN]; exact hown.alloc _, hb.alloc hB _⟩
        case measure => simp [intOf]; omega
    · obtain rfl : k = l.length := by omega
      rw [List.take_length] at hown ⊢
      have hdl : (dueI h m l).length ≤ l.length := by
        rw [(dueI_perm h m _).length_eq]; exact List.length_filter_le _ _
      generalize hfin : dueI h m l = fin at hown hdl ⊢
      have HF := Lib.hid hfin
      clear hfin
      have hsf := Sl.of_own It.cells_len hown
      clear hs
      obtain ⟨wo, rfl⟩ : ∃ wo : World, wo = wr := ⟨_, rfl⟩
      go_wp2_with fail
      go_loopw [12, 13] (fun v i wr2 => ∃ p : Nat, p ≤ fin.length ∧ i = .int .i64 p ∧ wr2.ownsRow wo.heap.size 9 1 v p (((fin.take p).map It.ch).map Value.string) ∧ Below wo.heap.size wo wr2) (fun _ i _ => fin.length - (intOf i).toNat)
      case atStart => exact ⟨0, Nat.zero_le _, rfl, own_empty (heap_alloc_new _ _) (Nat.le_refl _), (Below.refl _ _).alloc (Nat.le_refl _) _⟩
      case round =>
        obtain ⟨p, hp, rfl, hownp, hbp⟩ := hrel
        have hBp := hbp.size
        by_cases hpl : p < fin.length
        · obtain ⟨b', off', e', hb', hcy⟩ := (hsf.below hbp).at_ hpl
          have HTJ := Lib.hid (List.take_succ_eq_append_getElem hpl)
          generalize hy : fin[p] = y at hcy HTJ
          clear hy
          injection e' with e'
          injection e' with e1 e2
          subst e1 e2
          have hc0 : wr.cell? ⟨g, p * 4, none⟩ = some (.string y.ch) := by have := hcy 0 _ rfl; simpa using this
          clear hcy
          go_wp2_with (at_builtin; refine wpList_append_own _ rfl (.tmp 100) (.tmp 106) _ rfl wo.heap.size 9 i0 _ 1 16 Try.underlying40 hi Hz.out hz1 hz2 rfl (by decide) u12 p _ rfl (hownp.alloc _) ⟨wr.heap.size, 0, none⟩ 1 1 [.string y.ch] rfl rfl (news_alloc _ _ _ _ _ rfl rfl) (one_str _) (by simp only [maxLen]; omega) (by omega) (by simp; omega) ?_; intro v' w3 hown1 hg1 _)
          go_roundw
          case rel =>
            refine ⟨p + 1, by omega, by go_num, ?_, (hbp.alloc hBp _).grown hg1 (by simp; omega) (fun g hg => (hownp.lt g hg).1)⟩
            rw [HTJ.out]
            simpa using hown1
          case measure => simp [intOf]; omega
        · obtain rfl : p = fin.length := by omega
          rw [List.take_length] at hownp
          go_wp2_with fail
          go_ret
          exact ⟨_, rfl, by rw [HF.out]; exact hownp.mono hB, hb.trans (hbp.mono hB)⟩
end Go.Proofs.Ytnkbdkpeoaobeaa
