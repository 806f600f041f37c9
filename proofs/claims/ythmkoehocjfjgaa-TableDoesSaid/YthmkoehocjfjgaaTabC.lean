/- codec.Writer: Byte, Blob, Text where nothing is wrong. -/
import Derived.Test.YthmkoehocjfjgaaTabB

import Derived.Outline
namespace Go.Proofs.Ythmkoehocjfjgaa
open Go.RowKit Go.Maps Go.WideMaps

def WrAt (w : World) (b : Nat) (s : ByteArray) : Prop := Blk w b 86 #[.string s, .int .i64 0]
theorem WrAt.ch {w w' : World} {b : Nat} {s : ByteArray} {S : List Nat} (h : WrAt w b s) (hc : Ch S w w') (h1 : b ∉ S) : WrAt w' b s := Blk.ch h hc h1
set_option maxHeartbeats 400000 in
theorem wput_ok (b : Nat) (s t : ByteArray) (e : Int) (w : World) (hsz : s.size + t.size ≤ 1099511627776) (h : WrAt w b s) :
    Calls Try.prog 64 #[.pointer (some ⟨b, 0, none⟩), .string t, .bool true, .int .i64 e] w fun e w' => e = .returned (.tuple #[]) ∧ WrAt w' b (s ++ t) ∧ Ch [b] w w' := by
  have c0 : w.cell? ⟨b, 0, none⟩ = some (.string s) := Blk.cell h 0
  have f0 : w.frozen? ⟨b, 0, none⟩ = false := Blk.frozen h 0
  go_enter Try.func64, Try.ntmps64
  go_wp2
  go_end0
  exact ⟨rfl, Blk.set_ h 0 _, Ch.set_ (by simp) _ _ _⟩
theorem conv1 (W : World) (n : Int) : (convert 88 9 (.slice (some ⟨W.heap.size, 0, none⟩) 1 1)).run Try.prog (W.alloc (.cells #[.int .u8 n] 5)) = .ok (.string (strOfNums [n])) (W.alloc (.cells #[.int .u8 n] 5)) :=
  run_convert_bytes_arg _ 88 5 Try.underlying88 Try.underlying5 _ 0 1 1 [n] rfl (fun i hi => by
    obtain rfl : i = 0 := by omega
    rw [World.cell?_alloc_at _ _ _ _ rfl]; rfl) _ Try.underlying9
theorem conv2 (W : World) (m n : Int) : (convert 88 9 (.slice (some ⟨W.heap.size, 0, none⟩) 2 2)).run Try.prog (W.alloc (.cells #[.int .u8 m, .int .u8 n] 5)) = .ok (.string (strOfNums [m, n])) (W.alloc (.cells #[.int .u8 m, .int .u8 n] 5)) :=
  run_convert_bytes_arg _ 88 5 Try.underlying88 Try.underlying5 _ 0 2 2 [m, n] rfl (fun i hi => by
    rw [World.cell?_alloc_at _ _ _ _ (by simp)]
    match i, hi with
    | 0, _ => rfl
    | 1, _ => rfl) _ Try.underlying9
theorem num1_size (n : Int) : (strOfNums [n]).size = 1 := strOfNums_size _
theorem num2_size (m n : Int) : (strOfNums [m, n]).size = 2 := strOfNums_size _
set_option maxRecDepth 100000 in
set_option maxHeartbeats 400000 in
theorem wbyte_ok (b : Nat) (s : ByteArray) (n : Int) (w : World) (h0 : 0 ≤ n) (h1 : n ≤ 255) (hs : s.size ≤ 1000000) (h : WrAt w b s) :
    Calls Try.prog 48 #[.pointer (some ⟨b, 0, none⟩), .int .i64 n] w fun e w' => e = .returned (.tuple #[]) ∧ WrAt w' b (s ++ strOfNums [n]) ∧ Ch [b] w w' := by
  have H := Lib.hid h
  have kc := conv1
  clear h
  go_enter Try.func48, Try.ntmps48
  go_wp2_with fail
  refine (wput_ok b s _ 1 _ (by rw [num1_size]; omega) (Blk.alloc H.out _)).mono ?_
  rintro e w' ⟨rfl, h2, h3⟩
  have h4 := Lib.hid ((Ch.alloc [b] w (.cells #[.int .u8 n] 5)).trans h3)
  go_wp2
  go_end0
  exact ⟨rfl, h2, h4.out⟩
/-- a text behind its length -/
def blobB (t : ByteArray) : ByteArray := strOfNums [(t.size : Int) / 256, (t.size : Int) % 256] ++ t
theorem blobB_size (t : ByteArray) : (blobB t).size = 2 + t.size := by rw [blobB, ByteArray.size_append, num2_size]
set_option maxRecDepth 100000 in
set_option maxHeartbeats 400000 in
theorem wblob_ok (b : Nat) (s t : ByteArray) (w : World) (h1 : t.size ≤ 4096) (hs : s.size ≤ 1000000) (h : WrAt w b s) :
    Calls Try.prog 49 #[.pointer (some ⟨b, 0, none⟩), .string t] w fun e w' => e = .returned (.tuple #[]) ∧ WrAt w' b (s ++ blobB t) ∧ Ch [b] w w' := by
  have H := Lib.hid h
  have kc := conv2
  have k2 := num2_size
  have hd : decide ((t.size : Int) ≤ 4096) = true := decide_eq_true (by omega)
  clear h
  go_enter Try.func49, Try.ntmps49
  go_wp2_with fail
  refine (wput_ok b s (strOfNums [(t.size : Int) / 256, (t.size : Int) % 256] ++ t) 5 _ (by rw [ByteArray.size_append, num2_size]; omega) (Blk.alloc H.out _)).mono ?_
  rintro e w' ⟨rfl, h2, h3⟩
  have h4 := Lib.hid ((Ch.alloc [b] w _).trans h3)
  go_wp2
  go_end0
  exact ⟨rfl, h2, h4.out⟩
set_option maxHeartbeats 400000 in
theorem wtext_ok (b : Nat) (s : ByteArray) (w : World) (h : WrAt w b s) :
    Calls Try.prog 50 #[.pointer (some ⟨b, 0, none⟩)] w fun e w' => e = .returned (.string s) ∧ w = w' := by
  have c0 : w.cell? ⟨b, 0, none⟩ = some (.string s) := Blk.cell h 0
  have c1 : w.cell? ⟨b, 1, none⟩ = some (.int .i64 0) := Blk.cell h 1
  clear h
  go_enter Try.func50, Try.ntmps50
  go_wp2
  go_ret
  exact ⟨rfl, rfl⟩
end Go.Proofs.Ythmkoehocjfjgaa
