/- the law's items: at most 12, that can be. -/
import Derived.Test.YtnkbdkpeoaobeaaBase
import Derived.Test.YtnkbdkpeoaobeaaPlain20
import Derived.Test.YtnkbdkpeoaobeaaSchedB

namespace Go.Proofs.Ytnkbdkpeoaobeaa
open Go.RowKit

theorem own_ne {w : World} {b b' s s' n n' : Nat} {e e' : TypeId} {v v' : Value} {xs xs' : List Value} (h : w.ownsRow b e s v n xs) (h' : w.ownsRow b' e' s' v' n' xs') (hne : e ≠ e') : v.ownBlock = none ∨ v.ownBlock ≠ v'.ownBlock := by
  rcases h.2 with ⟨rfl, _⟩ | ⟨g, cap, cur, rfl, _, hh, _⟩
  · exact .inl rfl
  · right
    rcases h'.2 with ⟨rfl, _⟩ | ⟨g', cap', cur', rfl, _, hh', _⟩
    · simp [Value.ownBlock]
    · intro he
      have : g = g' := by simpa [Value.ownBlock] using he
      subst this
      rw [hh] at hh'
      injection hh' with hh'
      injection hh' with _ ht
      exact hne ht
theorem info54 : (Try.prog.info? 54).map (fun i => (i.zero, i.size, i.bytes)) = some (some (.agg #[.string ByteArray.empty, .int .i64 0, .int .u64 0, .bool false]), 4, 40) := by kernel_rfl
theorem own_empty {w : World} {base g k : Nat} {e : TypeId} (hg : w.heap[g]? = some (.cells #[] e (0, 0))) (hb : base ≤ g) : w.ownsRow base e k (.slice (some ⟨g, 0, none⟩) 0 0) 0 [] :=
  ⟨by simp, .inr ⟨g, 0, #[], rfl, hb, hg, Nat.le_refl _, by simp [maxLen], by simp, by simp⟩⟩
theorem grown_cells {w w' : World} {row : Option Nat} {g : Nat} {cs : Array Value} {e : TypeId} (h : w.grownBy w' row) (hne : ¬ row = some g) (hg : w.heap[g]? = some (.cells cs e (0, 0))) (hlt : g < w.heap.size) (i : Nat) : w'.cell? ⟨g, i, none⟩ = cs[i]? := by
  have := h.block g hlt (fun e => hne e.symm)
  simp [World.cell?, this, hg]
/-- behind the first append: the box, and the other row, are as they were -/
theorem items_step {wr w1 : World} {base k e : Nat} {a b c d : Value} {o : Obj} {v v' : Value} {xs ys : List Value} (h : wr.ownsRow base 37 4 v k xs) (h' : wr.ownsRow base 54 4 v' k ys)
    (hg : ((wr.alloc (.cells #[a, b, c, d] e)).alloc o).grownBy w1 v.ownBlock) : w1.cell? ⟨wr.heap.size, 0, none⟩ = some a ∧ w1.cell? ⟨wr.heap.size, 1, none⟩ = some b ∧ w1.cell? ⟨wr.heap.size, 2, none⟩ = some c ∧ w1.cell? ⟨wr.heap.size, 3, none⟩ = some d ∧ w1.ownsRow base 54 4 v' k ys ∧ wr.heap.size + 2 ≤ w1.heap.size := by
  have hne : ¬ v.ownBlock = some wr.heap.size := fun e => by have := (h.lt _ e).2; omega
  have hb : ((wr.alloc (.cells #[a, b, c, d] e)).alloc o).heap[wr.heap.size]? = some (.cells #[a, b, c, d] e (0, 0)) := by
    rw [Below.heap_alloc _ _ _ (by simp)]; exact heap_alloc_new _ _
  have hc := grown_cells hg hne hb (by simp; omega)
  have hs := hg.size
  simp at hs
  exact ⟨hc 0, hc 1, hc 2, hc 3, ((h'.alloc _).alloc _).kept hg (own_ne h' h (by decide)), by omega⟩
def cutS (s : ByteArray) : ByteArray := if s.size ≤ 40 then s else s.extract 0 40
def maskI (x : Int) : Int := bits .and .i64 x 1099511627775
def cutI (x : It) : It := { x with ch := cutS x.ch, ex := maskI x.ex }

set_option maxHeartbeats 2000000 in
theorem items_any (A : Option Addr) (l : List It) (c : Nat) (w : World) (hl : l.length ≤ 9223372036854775807) (hch : ∀ x ∈ l, x.ch.size ≤ maxLen) (hs : Sl w w.heap.size 4 It.cells A l) :
    Calls Try.prog 8 #[.slice A l.length c] w fun e w' => ∃ v v', e = .returned (.tuple #[v, v']) ∧ w'.ownsRow w.heap.size 37 4 v ((l.take 12).map cutI).length (((l.take 12).map cutI).flatMap It.cells) ∧ w'.ownsRow w.heap.size 54 4 v' ((l.take 12).map cutI).length (((l.take 12).map cutI).flatMap It.cells) ∧ Below w.heap.size w w' := by
  obtain ⟨i0, hi, hz0, hz1, hz2⟩ := info_parts info37
  obtain ⟨j0, hj, hy0, hy1, hy2⟩ := info_parts info54
  have Hz := Lib.hid hz0
  have Hy := Lib.hid hy0
  clear hz0 hy0
  go_enter Try.func8, Try.ntmps8
  go_wp2
  go_loopw [4, 5, 6, 7] (fun v v' i _ wr => ∃ k : Nat, k ≤ l.length ∧ k ≤ 12 ∧ i = .int .i64 k ∧ wr.ownsRow w.heap.size 37 4 v k (((l.take k).map cutI).flatMap It.cells) ∧ wr.ownsRow w.heap.size 54 4 v' k (((l.take k).map cutI).flatMap It.cells) ∧ Below w.heap.size w wr) (fun _ _ i _ _ => l.length - (intOf i).toNat)
  case atStart =>
    refine ⟨0, Nat.zero_le _, Nat.zero_le _, rfl, own_empty ?_ (Nat.le_refl _), own_empty ?_ (by omega), ((Below.refl _ _).alloc (Nat.le_refl _) _).alloc (by simp) _⟩
    · rw [Below.heap_alloc _ _ _ (by simp)]; exact heap_alloc_new _ _
    · have := heap_alloc_new (w.alloc (.cells #[] 37)) (.cells #[] 54); simpa using this
  case round =>
    obtain ⟨k, hk, hk12, rfl, hown, hown', hb⟩ := hrel
    have hB := hb.size
    by_cases hlt : k < l.length
    · by_cases hlt12 : k < 12
      · obtain ⟨b, off, rfl, hbB, hc⟩ := (hs.below hb).at_ hlt
        have HT := Lib.hid (List.take_succ_eq_append_getElem hlt)
        have hx0 := hch _ (List.getElem_mem hlt)
        generalize hx : l[k] = x at hc HT hx0
        clear hx
        have hc0 : wr.cell? ⟨b, off + k * 4, none⟩ = some (.string x.ch) := hc 0 _ rfl
        have hc1 : wr.cell? ⟨b, off + k * 4 + 1, none⟩ = some (.int .i64 x.ex) := hc 1 _ rfl
        have hc2 : wr.cell? ⟨b, off + k * 4 + 2, none⟩ = some (.int .u64 x.wo) := hc 2 _ rfl
        have hc3 : wr.cell? ⟨b, off + k * 4 + 3, none⟩ = some (.bool x.cl) := hc 3 _ rfl
        clear hc hch hs
        unfold maxLen at hx0
        by_cases hsz : x.ch.size ≤ 40
        · have HC : Hid ((cutI x).cells = [.string x.ch, .int .i64 (bits .and .i64 x.ex 1099511627775), .int .u64 x.wo, .bool x.cl]) := by show _ = _; simp [It.cells, cutI, cutS, maskI, hsz]
          go_wp2_with (first
            | (at_builtin; refine wpList_append_own _ rfl (.tmp 36) (.tmp 38) _ rfl w.heap.size 37 i0 _ 4 40 Try.underlying22 hi Hz.out hz1 hz2 rfl (by decide) u4 k _ rfl ((hown.alloc _).alloc _) ⟨wr.heap.size + 1, 0, none⟩ 1 1 (cutI x).cells rfl rfl (news_alloc _ _ _ _ _ HC.out.symm (by simp)) (cutI x).cells_one (by simp only [maxLen]; omega) (by omega) (by simp; omega) ?_; intro v1 w1 hown1 hg1 _
               obtain ⟨hb0, hb1, hb2, hb3, hown2, hz1'⟩ := items_step hown hown' hg1)
            | (at_builtin; go_must (refine wpList_append_own _ rfl (.tmp 40) (.tmp 50) _ rfl w.heap.size 54 j0 _ 4 40 Try.underlying25 hj Hy.out hy1 hy2 rfl (by decide) u5 k _ rfl (hown2.alloc _) ⟨w1.heap.size, 0, none⟩ 1 1 (cutI x).cells rfl rfl (news_alloc _ _ _ _ _ HC.out.symm rfl) (cutI x).cells_one (by simp only [maxLen]; omega) (by omega) (by simp; omega) ?_); intro v2 w2 hown3 hg2 _))
          go_roundw
          case rel =>
            refine ⟨k + 1, by omega, by omega, by go_num, ?_, ?_, ((((hb.alloc hB _).alloc (by simp; omega) _).grown hg1 (by simp; omega) (fun g hg => (hown.lt g hg).1)).alloc (by omega) _).grown hg2 (by simp; omega) (fun g hg => (hown2.lt g hg).1)⟩
            · rw [HT.out, List.map_append, List.flatMap_append]
              have := (hown1.alloc _).kept hg2 (own_ne hown1 hown2 (by decide))
              simpa using this
            · rw [HT.out, List.map_append, List.flatMap_append]
              simpa using hown3
          case measure => simp [intOf]; omega
        · have HC : Hid ((cutI x).cells = [.string (x.ch.extract 0 40), .int .i64 (bits .and .i64 x.ex 1099511627775), .int .u64 x.wo, .bool x.cl]) := by show _ = _; simp only [It.cells, cutI, cutS, maskI, if_neg hsz]
          go_wp2_with (first
            | (at_builtin; refine wpList_append_own _ rfl (.tmp 36) (.tmp 38) _ rfl w.heap.size 37 i0 _ 4 40 Try.underlying22 hi Hz.out hz1 hz2 rfl (by decide) u4 k _ rfl ((hown.alloc _).alloc _) ⟨wr.heap.size + 1, 0, none⟩ 1 1 (cutI x).cells rfl rfl (news_alloc _ _ _ _ _ HC.out.symm (by simp)) (cutI x).cells_one (by simp only [maxLen]; omega) (by omega) (by simp; omega) ?_; intro v1 w1 hown1 hg1 _
               obtain ⟨hb0, hb1, hb2, hb3, hown2, hz1'⟩ := items_step hown hown' hg1)
            | (at_builtin; go_must (refine wpList_append_own _ rfl (.tmp 40) (.tmp 50) _ rfl w.heap.size 54 j0 _ 4 40 Try.underlying25 hj Hy.out hy1 hy2 rfl (by decide) u5 k _ rfl (hown2.alloc _) ⟨w1.heap.size, 0, none⟩ 1 1 (cutI x).cells rfl rfl (news_alloc _ _ _ _ _ HC.out.symm rfl) (cutI x).cells_one (by simp only [maxLen]; omega) (by omega) (by simp; omega) ?_); intro v2 w2 hown3 hg2 _))
          go_roundw
          case rel =>
            refine ⟨k + 1, by omega, by omega, by go_num, ?_, ?_, ((((hb.alloc hB _).alloc (by simp; omega) _).grown hg1 (by simp; omega) (fun g hg => (hown.lt g hg).1)).alloc (by omega) _).grown hg2 (by simp; omega) (fun g hg => (hown2.lt g hg).1)⟩
            · rw [HT.out, List.map_append, List.flatMap_append]
              have := (hown1.alloc _).kept hg2 (own_ne hown1 hown2 (by decide))
              simpa using this
            · rw [HT.out, List.map_append, List.flatMap_append]
              simpa using hown3
          case measure => simp [intOf]; omega
      · obtain rfl : k = 12 := by omega
        go_wp2
        go_ret2
        have : ((l.take 12).map cutI).length = 12 := by simp; omega
        rw [this]
        exact ⟨_, _, rfl, hown, hown', hb⟩
    · obtain rfl : k = l.length := by omega
      go_wp2
      go_ret2
      rw [List.take_length] at hown hown'
      rw [List.take_of_length_le hk12]
      exact ⟨_, _, rfl, by simpa using hown, by simpa using hown', hb⟩
end Go.Proofs.Ytnkbdkpeoaobeaa
