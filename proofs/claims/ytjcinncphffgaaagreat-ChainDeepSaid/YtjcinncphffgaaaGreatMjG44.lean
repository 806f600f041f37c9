/- utxo: Copy: another set with the same outputs. utxo.New of outputs that may not be. A region that draws its order: its head, which only reads and calls what leaves the old as it was, ends ahead of all the rest. -/
import Derived.Test.YtjcinncphffgaaaGreatShelfUC
import Derived.Outline
import Derived.StillTail
import Derived.Test.YtjcinncphffgaaaGreatMjG28
import Derived.Test.YtjcinncphffgaaaGreatMjG34
import Derived.Test.YtjcinncphffgaaaGreatMjNum
set_option linter.unusedVariables false
set_option linter.unusedSimpArgs false
namespace Go.Proofs.YtjcinncphffgaaaGreat
open Go.RowKit Go.Maps Go.WideMaps Go.Shelf
theorem clone_ut (b : Nat) (T : List En) (w : World) (h : Ut w b T) :
    Calls Tryz.prog 137 #[.map (some b)] w fun e w' => e = .returned (.map (some w.heap.size)) ∧ Ut w' w.heap.size T ∧ Below w.heap.size w w' := by
  obtain ⟨D, ho, hD⟩ := h.own
  exact (AnyW.maps_Clone_owns Tryz.cloneM 57 elO b T.length D w ho).mono fun _ _ ⟨he, h1, _, h3⟩ => ⟨he, ⟨⟨D, h1, hD⟩, h.srt, h.ok⟩, h3⟩
set_option maxRecDepth 100000 in
set_option maxHeartbeats 1000000 in
theorem ucopy_any (sb b : Nat) (T : List En) (w : World) (h : SetAt w sb b T) :
    Calls Tryz.prog 64 #[.pointer (some ⟨sb, 0, none⟩)] w fun e w' => ∃ sb' b', e = .returned (.pointer (some ⟨sb', 0, none⟩)) ∧ w.heap.size ≤ sb' ∧ w.heap.size ≤ b' ∧ SetAt w' sb' b' T ∧ Below w.heap.size w w' := by
  have c0 : w.cell? ⟨sb, 0, none⟩ = some (.map (some b)) := h.hd.cell 0
  have HM := Lib.hid (clone_ut b T w h.ut)
  clear h
  go_enter Tryz.func64, Tryz.ntmps64
  go_wp2_with fail
  refine HM.out.mono ?_
  rintro e w1 ⟨rfl, hu, hb⟩
  have HU := Lib.hid hu
  have HB := Lib.hid hb
  have hz := hu.lt
  clear hu hb HM
  go_wp2_with fail
  go_ret
  exact ⟨w1.heap.size, w.heap.size, rfl, by omega, Nat.le_refl _, ⟨Blk.new _ _ _, HU.out.ch (Ch.alloc [] _ _) (by simp)⟩, HB.out.alloc (by omega) _⟩
end Go.Proofs.YtjcinncphffgaaaGreat
namespace Go.Proofs.YtjcinncphffgaaaGreat
open Go.RowKit Go.Maps
set_option maxRecDepth 100000 in
set_option maxHeartbeats 1000000 in
theorem unew_no (A : Option Addr) (l : List Ou) (c : Nat) (w : World) (hS : Sl w w.heap.size 9 Ou.cl A l) (hl : l.length ≤ 1000000) (hn : newU l = false) :
    Calls Tryz.prog 29 #[.slice A l.length c] w fun e w' => e = .returned (.tuple #[.pointer none, .int .i64 1]) ∧ Below w.heap.size w w' := by
  have HC := fun W (hW : Below w.heap.size w W) => Lib.hid (contains_ou A l c (fun o => !fitsB o) W ((hS.below hW).more hW.size) hl (fun W' _ x _ => oddu_any x W'))
  rw [any_odd] at HC
  have HN := Lib.hid hn
  unfold newU at HN
  clear hS hn
  by_cases h1 : 1 ≤ l.length
  rotate_left
  · have d1 : decide ((l.length : Int) < 1) = true := decide_eq_true (by omega)
    have d1' : decide (l.length < 1) = true := decide_eq_true (by omega)
    clear HC HN
    go_enter Tryz.func29, Tryz.ntmps29
    go_wp2_with fail
    go_ret2
    exact ⟨rfl, Below.refl _ _⟩
  have d1 : decide ((l.length : Int) < 1) = false := decide_eq_false (by omega)
  have d1' : decide (l.length < 1) = false := decide_eq_false (by omega)
  by_cases h2 : l.length ≤ 64
  rotate_left
  · have d2 : decide ((64 : Int) < (l.length : Int)) = true := decide_eq_true (by omega)
    have d2' : decide (64 < l.length) = true := decide_eq_true (by omega)
    clear HC HN
    go_enter Tryz.func29, Tryz.ntmps29
    go_wp2_with fail
    go_ret2
    exact ⟨rfl, Below.refl _ _⟩
  have d2 : decide ((64 : Int) < (l.length : Int)) = false := decide_eq_false (by omega)
  have d2' : decide (64 < l.length) = false := decide_eq_false (by omega)
  have HA : Hid (l.all fitsB = false) := Lib.hid (by
    have := HN.out
    rw [decide_eq_true h1, decide_eq_true h2] at this
    simpa using this)
  rw [HA.out] at HC
  clear HN HA
  go_enter Tryz.func29, Tryz.ntmps29
  go_wp2_with fail
  refine (HC _ (Below.refl _ _)).out.mono ?_
  rintro e W1 ⟨rfl, hb⟩
  have HB := Lib.hid hb
  clear hb HC
  go_wp2_with fail
  go_ret2
  exact ⟨rfl, HB.out⟩
end Go.Proofs.YtjcinncphffgaaaGreat
namespace Go.Proofs.YtjcinncphffgaaaGreat
open Go.RowKit
section
variable {P : Program} {ops ops1 : Array Oper} {md : Region.Mode} {C : World → Prop} {n : Nat}
end
end Go.Proofs.YtjcinncphffgaaaGreat
