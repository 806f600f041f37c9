/- the reference's writer; its PutRec and DelRec. -/
import Derived.Test.YthmkoehocjfjgaaTabR

import Derived.Deep.RegionHeld3
namespace Go.Proofs.Ythmkoehocjfjgaa
open Go.RowKit Go.Maps Go.WideMaps Go.Sort Go.Shelf

set_option maxHeartbeats 400000 in
theorem rmay_any (k v : ByteArray) (w : World) (hk : k.size ≤ maxLen) (hv : v.size ≤ maxLen) : Calls Try.prog 34 #[.string k, .string v] w fun e w' => e = .returned (.bool (mayB k v)) ∧ w = w' := by
  have _u : True := (fun _ _ => trivial) hk hv
  unfold maxLen at hk hv
  go_enter Try.func34, Try.ntmps34
  go_wp2
  · go_ret; exact ⟨ret_bool (by rw [mayB_eq, Bool.eq_iff_iff]; simp; omega), rfl⟩
  · go_ret; exact ⟨ret_bool (by rw [mayB_eq, Bool.eq_iff_iff]; simp; omega), rfl⟩
  · go_ret; exact ⟨ret_bool (by rw [mayB_eq, Bool.eq_iff_iff]; simp; omega), rfl⟩
theorem Ch.dr {S : List Nat} {w w' : World} (h : Ch S w w') : Ch S w w'.drew := ⟨h.os, h.tape, h.output, h.size, h.block⟩
def RWAt (w : World) (b : Nat) (s : ByteArray) : Prop := Blk w b 66 #[.string s, .int .i64 0]
theorem conv1d (W : World) (n : Int) : (convert 88 9 (.slice (some ⟨W.heap.size, 0, none⟩) 1 1)).run Try.prog (W.alloc (.cells #[.int .u8 n] 5)).drew = .ok (.string (strOfNums [n])) (W.alloc (.cells #[.int .u8 n] 5)).drew :=
  run_convert_bytes_arg _ 88 5 Try.underlying88 Try.underlying5 _ 0 1 1 [n] rfl (fun i hi => by
    obtain rfl : i = 0 := by omega
    exact (World.cell?_alloc_at _ _ _ _ rfl : (W.alloc _).cell? _ = _).trans rfl) _ Try.underlying9
set_option maxRecDepth 100000 in
set_option maxHeartbeats 1000000 in
theorem rwbyte_ok (b : Nat) (s : ByteArray) (n : Int) (w : World) (h0 : 0 ≤ n) (h1 : n ≤ 255) (hs : s.size ≤ 1000000) (h : RWAt w b s) :
    Calls Try.prog 35 #[.pointer (some ⟨b, 0, none⟩), .int .i64 n] w fun e w' => e = .returned (.tuple #[]) ∧ RWAt w' b (s ++ strOfNums [n]) ∧ Ch [b] w w' := by
  have c0 : w.cell? ⟨b, 0, none⟩ = some (.string s) := Blk.cell h 0
  have f0 : w.frozen? ⟨b, 0, none⟩ = false := Blk.frozen h 0
  have H := Lib.hid h
  have kc := conv1d
  have k1 := num1_size
  have hfz : ∀ o, (w.alloc o).drew.frozen? ⟨b, 0, none⟩ = false := fun o => Blk.frozen (Blk.alloc h o) 0
  have hcz : ∀ o, (w.alloc o).drew.cell? ⟨b, 0, none⟩ = some (.string s) := fun o => Blk.cell (Blk.alloc h o) 0
  have hw8 : IntKind.u8.wrap n = n := IntWalk.u8_in n ⟨h0, h1⟩
  clear h
  go_enter Try.func35, Try.ntmps35
  go_wp2_with fail
  go_region
  all_goals
    go_end0
    exact ⟨rfl, Blk.set_ (Blk.alloc H.out _) 0 _, ((Ch.alloc [b] w _).trans (Ch.set_ (by simp) _ _ _)).dr⟩
theorem conv2d (W : World) (m n : Int) : (convert 88 9 (.slice (some ⟨W.heap.size, 0, none⟩) 2 2)).run Try.prog (W.alloc (.cells #[.int .u8 m, .int .u8 n] 5)).drew = .ok (.string (strOfNums [m, n])) (W.alloc (.cells #[.int .u8 m, .int .u8 n] 5)).drew :=
  run_convert_bytes_arg _ 88 5 Try.underlying88 Try.underlying5 _ 0 2 2 [m, n] rfl (fun i hi => by
    refine (World.cell?_alloc_at _ _ _ _ (by simp) : (W.alloc _).cell? _ = _).trans ?_
    match i, hi with
    | 0, _ => rfl
    | 1, _ => rfl) _ Try.underlying9
set_option maxRecDepth 100000 in
set_option maxHeartbeats 1000000 in
theorem rwblob_ok (b : Nat) (s t : ByteArray) (w : World) (h1 : t.size ≤ 4096) (hs : s.size ≤ 1000000) (h : RWAt w b s) :
    Calls Try.prog 36 #[.pointer (some ⟨b, 0, none⟩), .string t] w fun e w' => e = .returned (.tuple #[]) ∧ RWAt w' b (s ++ blobB t) ∧ Ch [b] w w' := by
  have c0 : w.cell? ⟨b, 0, none⟩ = some (.string s) := Blk.cell h 0
  have f0 : w.frozen? ⟨b, 0, none⟩ = false := Blk.frozen h 0
  have H := Lib.hid h
  have kc := conv2d
  have k2 := num2_size
  have hfz : ∀ o, (w.alloc o).drew.frozen? ⟨b, 0, none⟩ = false := fun o => Blk.frozen (Blk.alloc h o) 0
  have hcz : ∀ o, (w.alloc o).drew.cell? ⟨b, 0, none⟩ = some (.string s) := fun o => Blk.cell (Blk.alloc h o) 0
  have hw1 : IntKind.u8.wrap ((t.size : Int) / 256) = (t.size : Int) / 256 := IntWalk.u8_in _ ⟨by omega, by omega⟩
  have hw2 : IntKind.u8.wrap ((t.size : Int) % 256) = (t.size : Int) % 256 := IntWalk.u8_in _ ⟨by omega, by omega⟩
  clear h
  go_enter Try.func36, Try.ntmps36
  go_wp2_with fail
  go_region
  all_goals
    go_end0
    exact ⟨rfl, Blk.set_ (Blk.alloc H.out _) 0 _, ((Ch.alloc [b] w _).trans (Ch.set_ (by simp) _ _ _)).dr⟩
set_option maxHeartbeats 400000 in
theorem rwtext_ok (b : Nat) (s : ByteArray) (w : World) (h : RWAt w b s) :
    Calls Try.prog 37 #[.pointer (some ⟨b, 0, none⟩)] w fun e w' => e = .returned (.string s) ∧ w = w' := by
  have c0 : w.cell? ⟨b, 0, none⟩ = some (.string s) := Blk.cell h 0
  have c1 : w.cell? ⟨b, 1, none⟩ = some (.int .i64 0) := Blk.cell h 1
  clear h
  go_enter Try.func37, Try.ntmps37
  go_wp2
  go_ret
  exact ⟨rfl, rfl⟩
theorem rmay_v (k v : ByteArray) (b : Bool) (w : World) (hk : k.size ≤ maxLen) (hv : v.size ≤ maxLen) (hb : mayB k v = b) : Calls Try.prog 34 #[.string k, .string v] w fun e w' => e = .returned (.bool b) ∧ w = w' := by
  have := rmay_any k v w hk hv; rwa [hb] at this
theorem RWAt.new (w : World) : RWAt (w.alloc (.cells #[.string ByteArray.empty, .int .i64 0] 66)) w.heap.size ByteArray.empty := Blk.new w _ _
set_option maxRecDepth 100000 in
set_option maxHeartbeats 1000000 in
theorem rputRec_any (k v : ByteArray) (w : World) (hk : k.size ≤ maxLen) (hv : v.size ≤ maxLen) :
    Calls Try.prog 12 #[.string k, .string v] w fun e w' => e = .returned (.string (putRecB k v)) ∧ Below w.heap.size w w' := by
  have HP : Hid (putRecB k v = if mayB k v then recTo 80 [k, v] else ByteArray.empty) := rfl
  generalize putRecB k v = pr at HP ⊢
  cases hm : mayB k v with
  | false =>
    have HM := Lib.hid hm
    clear hm
    go_enter Try.func12, Try.ntmps12
    go_wp2_with (go_at_call 34; refine (rmay_v k v false _ hk hv HM.out).mono ?_; rintro e w' ⟨rfl, rfl⟩)
    go_ret
    exact ⟨by rw [HP.out, HM.out]; rfl, Below.refl _ _⟩
  | true =>
    have HM := Lib.hid hm
    obtain ⟨b1, b2, b3⟩ := mayB_bd hm
    have HE : Hid (recTo 80 [k, v] = ByteArray.empty ++ strOfNums [80] ++ blobB k ++ blobB v) := rfl
    clear hm
    go_enter Try.func12, Try.ntmps12
    go_wp2_with fail
    refine (rmay_v k v true _ hk hv HM.out).mono ?_
    rintro e w' ⟨rfl, rfl⟩
    go_wp2_with fail
    refine (rwbyte_ok w.heap.size ByteArray.empty 80 _ (by omega) (by omega) (by simp) (RWAt.new w)).mono ?_
    rintro e w1 ⟨rfl, h1, c1⟩
    have C1 := Lib.hid ((Ch.alloc [w.heap.size] w _).trans c1)
    have H1 := Lib.hid h1
    clear h1 c1
    go_wp2_with fail
    refine (rwblob_ok w.heap.size _ k _ (by omega) (by rw [ByteArray.size_append, num1_size]; simp) H1.out).mono ?_
    rintro e w2 ⟨rfl, h2, c2⟩
    have C2 := Lib.hid (C1.out.trans c2)
    have H2 := Lib.hid h2
    clear h2 c2
    go_wp2_with fail
    refine (rwblob_ok w.heap.size _ v _ (by omega) (by rw [ByteArray.size_append, ByteArray.size_append, num1_size, blobB_size]; simp; omega) H2.out).mono ?_
    rintro e w3 ⟨rfl, h3, c3⟩
    have C3 := Lib.hid (C2.out.trans c3)
    have H3 := Lib.hid h3
    clear h3 c3
    go_wp2_with fail
    refine (rwtext_ok w.heap.size _ _ H3.out).mono ?_
    rintro e w' ⟨rfl, rfl⟩
    go_wp2_with fail
    go_ret
    exact ⟨by rw [HP.out, HM.out, if_pos rfl, HE.out]; rfl, C3.out.below (Nat.le_refl _) (by simp)⟩
set_option maxRecDepth 100000 in
set_option maxHeartbeats 1000000 in
theorem rdelRec_any (k : ByteArray) (w : World) (hk : k.size ≤ maxLen) :
    Calls Try.prog 13 #[.string k] w fun e w' => e = .returned (.string (delRecB k)) ∧ Below w.heap.size w w' := by
  have HP : Hid (delRecB k = if mayB k ByteArray.empty then recTo 68 [k] else ByteArray.empty) := rfl
  generalize delRecB k = pr at HP ⊢
  cases hm : mayB k ByteArray.empty with
  | false =>
    have HM := Lib.hid hm
    clear hm
    go_enter Try.func13, Try.ntmps13
    go_wp2_with (go_at_call 34; refine (rmay_v k ByteArray.empty false _ hk (by simp) HM.out).mono ?_; rintro e w' ⟨rfl, rfl⟩)
    go_ret
    exact ⟨by rw [HP.out, HM.out]; rfl, Below.refl _ _⟩
  | true =>
    have HM := Lib.hid hm
    obtain ⟨b1, b2, b3⟩ := mayB_bd hm
    have HE : Hid (recTo 68 [k] = ByteArray.empty ++ strOfNums [68] ++ blobB k) := rfl
    clear hm
    go_enter Try.func13, Try.ntmps13
    go_wp2_with fail
    refine (rmay_v k ByteArray.empty true _ hk (by simp) HM.out).mono ?_
    rintro e w' ⟨rfl, rfl⟩
    go_wp2_with fail
    refine (rwbyte_ok w.heap.size ByteArray.empty 68 _ (by omega) (by omega) (by simp) (RWAt.new w)).mono ?_
    rintro e w1 ⟨rfl, h1, c1⟩
    have C1 := Lib.hid ((Ch.alloc [w.heap.size] w _).trans c1)
    have H1 := Lib.hid h1
    clear h1 c1
    go_wp2_with fail
    refine (rwblob_ok w.heap.size _ k _ (by omega) (by rw [ByteArray.size_append, num1_size]; simp) H1.out).mono ?_
    rintro e w2 ⟨rfl, h2, c2⟩
    have C2 := Lib.hid (C1.out.trans c2)
    have H2 := Lib.hid h2
    clear h2 c2
    go_wp2_with fail
    refine (rwtext_ok w.heap.size _ _ H2.out).mono ?_
    rintro e w' ⟨rfl, rfl⟩
    go_wp2_with fail
    go_ret
    exact ⟨by rw [HP.out, HM.out, if_pos rfl, HE.out]; rfl, C2.out.below (Nat.le_refl _) (by simp)⟩
end Go.Proofs.Ythmkoehocjfjgaa
