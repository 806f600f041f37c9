/- table.rec, PutRec, DelRec. -/
import Derived.Test.YthmkoehocjfjgaaTabC

namespace Go.Proofs.Ythmkoehocjfjgaa
open Go.RowKit Go.Maps Go.WideMaps

def recTo (kind : Int) (l : List ByteArray) : ByteArray := l.foldl (fun s t => s ++ blobB t) (ByteArray.empty ++ strOfNums [kind])
theorem recTo_snoc (kind : Int) (l : List ByteArray) (k : Nat) (h : k < l.length) : recTo kind (l.take (k + 1)) = recTo kind (l.take k) ++ blobB l[k] := by
  unfold recTo
  rw [List.take_succ_eq_append_getElem h, List.foldl_append]; rfl
theorem recTo_size (kind : Int) (l : List ByteArray) (h : ∀ t ∈ l, t.size ≤ 4096) : (recTo kind l).size ≤ 1 + l.length * 4098 := by
  unfold recTo
  have gen : ∀ (l : List ByteArray) (s : ByteArray), (∀ t ∈ l, t.size ≤ 4096) → (l.foldl (fun s t => s ++ blobB t) s).size ≤ s.size + l.length * 4098 := by
    intro l
    induction l with
    | nil => intro s _; simp
    | cons t r ih =>
      intro s h
      rw [List.foldl_cons]
      have h1 := ih (s ++ blobB t) (fun x hx => h x (by simp [hx]))
      have h2 := h t (by simp)
      rw [ByteArray.size_append, blobB_size] at h1
      simp only [List.length_cons]
      omega
  have h1 := gen l (ByteArray.empty ++ strOfNums [kind]) h
  rw [ByteArray.size_append, num1_size] at h1
  simpa using h1
theorem WrAt.new (w : World) : WrAt (w.alloc (.cells #[.string ByteArray.empty, .int .i64 0] 86)) w.heap.size ByteArray.empty := Blk.new w _ _
set_option maxRecDepth 100000 in
set_option maxHeartbeats 1000000 in
theorem rec_any (kind : Int) (A : Option Addr) (l : List ByteArray) (c : Nat) (w : World) (h0 : 0 ≤ kind) (h1 : kind ≤ 255) (hl : l.length ≤ 100) (hok : ∀ t ∈ l, t.size ≤ 4096) (hs : Sl w w.heap.size 1 strC A l) :
    Calls Try.prog 33 #[.int .i64 kind, .slice A l.length c] w fun e w' => e = .returned (.string (recTo kind l)) ∧ Below w.heap.size w w' := by
  go_enter Try.func33, Try.ntmps33
  go_wp2_with fail
  refine (wbyte_ok w.heap.size ByteArray.empty kind _ h0 h1 (by simp) (WrAt.new w)).mono ?_
  rintro e w1 ⟨rfl, hw1, hc1⟩
  have hb1 : Below w.heap.size w w1 := ((Below.refl _ _).alloc (Nat.le_refl _) _).trans (hc1.below (by simp) (by simp))
  have HW1 := Lib.hid hw1
  have HS := Lib.hid hs
  have HB1 := Lib.hid hb1
  have hz1 := hb1.size
  clear hw1 hc1 hb1 hs
  go_wp2_with fail
  go_loopw [7, 12] (fun _ i wr => ∃ k : Nat, k ≤ l.length ∧ i = .int .i64 k ∧ Hid (WrAt wr w.heap.size (recTo kind (l.take k))) ∧ Hid (Below w.heap.size w wr)) (fun _ i _ => l.length - (intOf i).toNat)
  case atStart => exact ⟨0, Nat.zero_le _, rfl, HW1, HB1⟩
  case round =>
    obtain ⟨k, hk, rfl, hw, hb⟩ := hrel
    have hz := hb.out.size
    by_cases hlt : k < l.length
    · obtain ⟨b, off, rfl, hbB, hc⟩ := (HS.out.below hb.out).at_ hlt
      have HT := Lib.hid (recTo_snoc kind l k hlt)
      have hx := hok _ (List.getElem_mem hlt)
      have hz2 := recTo_size kind (l.take k) (fun t ht => hok t (List.mem_of_mem_take ht))
      have htl : (l.take k).length ≤ 100 := Nat.le_trans (List.length_take_le _ _) (by omega)
      generalize l[k] = x at hc HT hx
      generalize recTo kind (l.take k) = rk at hw HT hz2
      have hc0 : wr.cell? ⟨b, off + k, none⟩ = some (.string x) := by have := hc 0 _ rfl; rwa [Nat.mul_one] at this
      clear hc
      go_wp2_with fail
      refine (wblob_ok w.heap.size rk x _ hx (by omega) hw.out).mono ?_
      rintro e w2 ⟨rfl, hw2, hc2⟩
      have HW2 := Lib.hid hw2
      have HB2 := Lib.hid (hb.out.trans (hc2.below hz (by simp)))
      clear hw2 hc2
      go_wp2_with fail
      go_roundw
      case rel => exact ⟨k + 1, by omega, by go_num, by rw [HT.out]; exact HW2, HB2⟩
      case measure => simp [intOf]; omega
    · obtain rfl : k = l.length := by omega
      go_wp2_with fail
      have hw' := hw.out
      rw [List.take_length] at hw'
      refine (wtext_ok w.heap.size _ _ hw').mono ?_
      rintro e w2 ⟨rfl, rfl⟩
      go_wp2
      go_ret
      exact ⟨rfl, hb.out⟩
end Go.Proofs.Ythmkoehocjfjgaa
