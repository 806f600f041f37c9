/- the law's rows: a copy of a table's rows, for the reference. -/
import Derived.Test.YthmkoehocjfjgaaTabI

import Derived.Deep.RegionHeld3
import Derived.Deep.DeepCutAuto
import Derived.Deep.Onto
namespace Go.Proofs.Ythmkoehocjfjgaa
open Go.RowKit Go.Maps Go.WideMaps

theorem infoR15 : (Try.prog.info? 48).map (fun i => (i.zero, i.size, i.bytes)) = some (some (.agg #[.string ByteArray.empty, .string ByteArray.empty]), 2, 32) := by kernel_rfl
theorem infoR : (Try.prog.info? 46).map (fun i => (i.zero, i.size, i.bytes)) = some (some (.agg #[.string ByteArray.empty, .string ByteArray.empty]), 2, 32) := by kernel_rfl
theorem own_empty {w : World} {base g k : Nat} {e : TypeId} (hg : w.heap[g]? = some (.cells #[] e (0, 0))) (hb : base ≤ g) : w.ownsRow base e k (.slice (some ⟨g, 0, none⟩) 0 0) 0 [] :=
  ⟨by simp, .inr ⟨g, 0, #[], rfl, hb, hg, Nat.le_refl _, by simp [maxLen], by simp, by simp⟩⟩
theorem ent_drew (w : World) (o : Obj) : (w.alloc o).drew.heap[w.heap.size]? = some o := heap_alloc_new w o
theorem own_al_dr {w : World} {base k n : Nat} {e : TypeId} {v : Value} {xs : List Value} (h : w.ownsRow base e k v n xs) (o : Obj) : (w.alloc o).drew.ownsRow base e k v n xs := World.ownsRow.alloc (w := w) h o
theorem grown_below {w W w1 : World} {e : TypeId} {s n : Nat} {v : Value} {xs : List Value} (hown : W.ownsRow w.heap.size e s v n xs) (hg : W.grownBy w1 v.ownBlock) (hb : Below w.heap.size w W) : Below w.heap.size W w1 ∧ Below w.heap.size w w1 :=
  have h1 : Below w.heap.size W w1 := (Below.refl _ _).grown hg hb.size (fun r hr => (hown.lt r hr).1)
  ⟨h1, hb.trans h1⟩
theorem below_al_dr {w W : World} {B : Nat} (h : Below B w W) (hB : B ≤ W.heap.size) (o : Obj) : Below B w (W.alloc o).drew := (h.alloc hB o).drew
theorem flat_snoc {T : List KV} {k : Nat} (hk : k < T.length) : (T.take (k + 1)).flatMap rowC = (T.take k).flatMap rowC ++ rowC T[k] := by
  rw [List.take_succ_eq_append_getElem hk, List.flatMap_append]; simp
set_option maxRecDepth 100000 in
set_option maxHeartbeats 2000000 in
theorem rows_any (A : Option Addr) (T : List KV) (c : Nat) (w : World) (hT : T.length ≤ 2000) (hs : Sl w w.heap.size 2 rowC A T) :
    Calls Try.prog 18 #[.slice A T.length c] w fun e w' => ∃ v, e = .returned v ∧ w'.ownsRow w.heap.size 48 2 v T.length (T.flatMap rowC) ∧ Below w.heap.size w w' := by
  obtain ⟨i0, hi, hz0, hz1, hz2⟩ := info_parts infoR15
  have Hz := Lib.hid hz0
  clear hz0
  go_enter Try.func18, Try.ntmps18
  go_wp2
  go_loopw [3, 4] (fun v i wr => ∃ k : Nat, k ≤ T.length ∧ i = .int .i64 k ∧ wr.ownsRow w.heap.size 48 2 v k ((T.take k).flatMap rowC) ∧ Below w.heap.size w wr) (fun _ i _ => T.length - (intOf i).toNat)
  case atStart => exact ⟨0, Nat.zero_le _, rfl, own_empty (heap_alloc_new _ _) (Nat.le_refl _), (Below.refl _ _).alloc (Nat.le_refl _) _⟩
  case round =>
    obtain ⟨k, hk, rfl, hown, hb⟩ := hrel
    have hB := hb.size
    by_cases hlt : k < T.length
    · obtain ⟨b, off, rfl, hbB, hc⟩ := (hs.below hb).at_ hlt
      have HT := Lib.hid (flat_snoc hlt)
      generalize T[k] = p at hc HT
      obtain ⟨p0, p1⟩ := p
      have hc0 : wr.cell? ⟨b, off + k * 2, none⟩ = some (.string p0) := hc 0 _ rfl
      have hc1 : wr.cell? ⟨b, off + k * 2 + 1, none⟩ = some (.string p1) := hc 1 _ rfl
      have hk0 : (0 : Int) ≤ (k : Int) := by omega
      have hk1 : (k : Int) < (T.length : Int) := by omega
      have HO := Lib.hid (fun o => own_al_dr hown o)
      have HB := Lib.hid (below_al_dr hb hB)
      have hbr : b < wr.heap.size := by omega
      clear hc hown hb
      go_wp2_with fail
      go_region_held3 (fun w' => w'.cell? ⟨b, off + k * 2, none⟩ = some (.string p0) ∧ w'.cell? ⟨b, off + k * 2 + 1, none⟩ = some (.string p1))
        (first
          | go_keep
          | (go_split_ands
             refine ⟨?_, ?_⟩
             · (rw [hX.cell hbB]; assumption)
             · (rw [hX.cell hbB]; assumption)))
        ((refine step_append_box _ (by rfl) (.tmp 12) (.tmp 24) 35 (by rfl) w.heap.size 48 i0 _ 2 32 Try.underlying35 hi Hz.out hz1 hz2 rfl (by decide) u3 k ((T.take k).flatMap rowC) (by rfl) ?_ _ 1 1 #[.string p0, .string p1] 48 (by rfl) ?_ rfl (rowC_one (p0, p1)) (by simp only [maxLen]; omega) (by omega) ?_ ?_; (with_reducible exact HO.out _); (with_reducible exact ent_drew _ _); ((first | omega | (simp; omega))); intro v1 w1 hown0 hown1 hg1; obtain ⟨hX, hb1⟩ := grown_below hown0 hg1 (HB.out _); have HO1 := Lib.hid hown1; have HB1 := Lib.hid hb1; clear hown0 hown1 hb1))
      go_wp2_with fail
      go_roundw
      case rel =>
        refine ⟨k + 1, by omega, by go_num, ?_, HB1.out⟩
        rw [HT.out]; exact HO1.out
      case measure => simp [intOf]; omega
    · obtain rfl : k = T.length := by omega
      rw [List.take_length] at hown
      go_wp2
      go_ret
      exact ⟨_, rfl, hown, hb⟩
end Go.Proofs.Ythmkoehocjfjgaa
