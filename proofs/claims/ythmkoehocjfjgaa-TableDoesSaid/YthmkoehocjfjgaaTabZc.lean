/- TableDoes: the walk, of a number that may not be; all three. -/
import Derived.Test.YthmkoehocjfjgaaTabZ
import Derived.Test.YthmkoehocjfjgaaTabZb

namespace Go.Proofs.Ythmkoehocjfjgaa
open Go.RowKit Go.Maps Go.WideMaps Go.Sort Go.Shelf

set_option maxRecDepth 100000 in
set_option maxHeartbeats 4000000 in
theorem does_any (most : Int) (A : Option Addr) (l : List Op3) (c : Nat) (fr : ByteArray) (w : World) (hfr : fr.size ≤ maxLen) (hl : l.length ≤ maxLen) (hch : ∀ x ∈ l, x.came) (hs : Sl w w.heap.size 3 Op3.cells A l) :
    Calls Try.prog 7 #[.int .i64 most, .slice A l.length c, .string fr] w fun e w' => e = .returned (.bool true) ∧ Below w.heap.size w w' := by
  by_cases hbad : most < 1 ∨ 1000 < most
  · unfold maxLen at hl
    clear hs hch hfr
    go_enter Try.func7, Try.ntmps7
    rcases hbad with hbad | hbad
    all_goals
      go_wp2_with (first
        | (go_at_call 9; refine (new_no most _ (by omega)).mono ?_; rintro e w' ⟨rfl, rfl⟩)
        | (go_at_call 25; refine (rnew_bad most _ (by omega)).mono ?_; rintro e w' ⟨rfl, rfl⟩))
      go_loopw [8, 12] (fun tv i wr => tv = .pointer none ∧ i = .int .i64 0 ∧ wr = w) (fun _ _ _ => 0)
      case atStart => exact ⟨rfl, rfl, rfl⟩
      case round =>
        obtain ⟨rfl, rfl, rfl⟩ := hrel
        go_wp2_with (go_at_call 20; refine (fixed_any _).mono ?_; rintro e wc ⟨rfl, hbc⟩)
        go_ret
        exact ⟨rfl, hbc⟩
  · by_cases h16 : 16 < most
    · exact does_big most A l c fr w h16 (by omega) hfr hl hch hs
    · exact does_low most A l c fr w (by omega) (by omega) hfr hl hch hs
end Go.Proofs.Ythmkoehocjfjgaa
