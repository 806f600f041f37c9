/- the law's cut. -/
import Derived.Test.YthmkoehocjfjgaaTabL

namespace Go.Proofs.Ythmkoehocjfjgaa
open Go.RowKit Go.Maps Go.WideMaps Go.Sort Go.Shelf

/-- a call: which, a key, a value -/
structure Op3 where
  kd : Int
  ke : ByteArray
  va : ByteArray
def Op3.cells (x : Op3) : List Value := [.int .i64 x.kd, .string x.ke, .string x.va]
theorem Op3.cells_len (x : Op3) : x.cells.length = 3 := rfl
def Op3.came (x : Op3) : Prop := x.ke.size ≤ maxLen ∧ x.va.size ≤ maxLen
def cutB (n : Int) (s : ByteArray) : ByteArray := s.extract 0 (min (s.size : Int) n).toNat
theorem cutB_size {n : Nat} (s : ByteArray) : (cutB n s).size ≤ n := by
  unfold cutB
  rw [ByteArray.size_extract]; omega
set_option maxRecDepth 100000 in
set_option maxHeartbeats 1000000 in
theorem cut_any (x : Op3) (w : World) (hx : x.came) :
    Calls Try.prog 8 #[.agg #[.int .i64 x.kd, .string x.ke, .string x.va]] w fun e w' => e = .returned (.agg #[.int .i64 x.kd, .string (cutB 70 x.ke), .string (cutB 2100 x.va)]) ∧ Below w.heap.size w w' := by
  obtain ⟨h1, h2⟩ := hx
  unfold maxLen at h1 h2
  obtain ⟨kd, k, v⟩ := x
  dsimp only at h1 h2 ⊢
  go_enter Try.func8, Try.ntmps8
  go_wp2
  exact bodyPost_ret (v := .agg #[.int .i64 kd, .string (cutB 70 k), .string (cutB 2100 v)]) (by simp [results, Try.results8, go_sem, cutB]) rfl ⟨rfl, ((Below.refl _ _).alloc (Nat.le_refl _) _).alloc (by simp) _⟩
end Go.Proofs.Ythmkoehocjfjgaa
