/- sdk: a client without a channel: Root, Name, Whole; Pay, Back refused come later. sdk.Output of a client without a channel. sdk.Attach, taken. law23: place, offer; what a long straight proof keeps. A region that draws its order, in a round of a range over a function: walked in the plain mode. -/
import Derived.Outline
import Derived.StillTailTactics
import Derived.OrdersHeld
import Derived.OwnWalkIn
import Derived.Test.YtjcinncphffgaaaGreatMjNote
import Derived.Test.YtjcinncphffgaaaGreatMjSdkA
import Derived.Test.YtjcinncphffgaaaGreatMjSdkB
import Derived.Test.YtjcinncphffgaaaGreatMjWots
set_option linter.unusedVariables false
set_option linter.unusedSimpArgs false
namespace Go.Proofs.YtjcinncphffgaaaGreat
open Go.RowKit Go.Maps
variable {w : World} {cb h n i : Nat} {seed : ByteArray}
end Go.Proofs.YtjcinncphffgaaaGreat
namespace Go.Proofs.YtjcinncphffgaaaGreat
open Go.RowKit Go.Maps
variable {w : World} {cb h n i : Nat} {seed : ByteArray}
end Go.Proofs.YtjcinncphffgaaaGreat
namespace Go.Proofs.YtjcinncphffgaaaGreat
open Go.RowKit Go.Maps
variable {w : World} {cb h n i : Nat} {seed : ByteArray}
end Go.Proofs.YtjcinncphffgaaaGreat
namespace Go.Proofs.YtjcinncphffgaaaGreat
open Go.RowKit Go.Maps
end Go.Proofs.YtjcinncphffgaaaGreat
namespace Go.Proofs.YtjcinncphffgaaaGreat
open Go.RowKit
section
variable {n : Nat} {P : Program} {ops : Array Oper} {Q : Exit → Act → World → Prop} {l : Nat}
theorem rowsIn_wide {row : String} {args : Array Value} {w : World} {R : Value → World → Prop} (h : Rows P row args w R) : RowsIn Fence.wide n P row args w R :=
  fun c cs _ => let ⟨v, w', r, s⟩ := h c cs; ⟨v, w', r, stepsIn_wide.2 s⟩
theorem oper_wide {o : Oper} {a : Act} {w : World} {K : Act → World → Prop} (h : o.wp P a w K Q) : o.wpIn Fence.wide n P a w K Q := by
  refine ⟨fun _ _ => trivial, ?_⟩
  unfold Oper.wp at h
  show o.uponIn Fence.wide n P a K Q ((execOp a.eval o).run P w)
  have hd : Fence.wide.depth.isSome = true → 1 ≤ n := fun h0 => by simp [Fence.wide] at h0
  revert h
  generalize (execOp a.eval o).run P w = r
  intro h
  cases r with
  | ok nx w' =>
    cases nx with
    | value v => exact h
    | skip => exact h
    | defer d => exact h
    | enter f args => exact ⟨hd, callsIn_wide.2 h⟩
    | row r args => exact ⟨hd, rowsIn_wide h⟩
    | _ => exact h.elim
  | halt x w' =>
    cases x with
    | panic v => exact h
    | _ => exact h.elim
theorem op_wide (hQ : ¬ LetsOut Q) {i : Nat} {K : Act → World → Prop} {a : Act} {w : World} (h : wpOp P ops Q i K a w) : wpOpIn Fence.wide n P ops Q i K a w := by
  unfold wpOp at h
  unfold wpOpIn
  cases ho : ops[i]? with
  | none => rw [ho] at h; exact h
  | some o =>
    rw [ho] at h
    dsimp only at h ⊢
    split
    · rename_i hw
      rw [if_pos hw] at h
      rcases h with h | ⟨_, h⟩
      · exact oper_wide h
      · exact absurd h hQ
    · rename_i hw
      rw [if_neg hw] at h
      exact ⟨fun _ _ => trivial, h⟩
theorem any_wide (hQ : ¬ LetsOut Q) {md : Region.Mode} : ∀ (fuel : Nat) (listed : Array Bool) (a : Act) (w : World), wpAny P md ops Q fuel listed a w → wpAnyIn Fence.wide n P md ops Q fuel listed a w
  | 0, _, _, _, h => h
  | fuel + 1, _, _, _, h => ⟨h.1, fun i hi => wpOpIn_mono (fun a w => any_wide hQ fuel _ a w) (op_wide hQ (h.2 i hi))⟩
theorem region_round_held {id : Nat} {a : Act} {w : World} (S : World → Prop) (hQ : ¬ LetsOut Q) (h : ops.all noDefer = true) (hm : P.follows .mixedOrders = true) (hS : S w.drew)
    (hw : S w.drew → wpAnyH P .any ops Q S ops.size (Array.replicate ops.size false) a w.drew) : (Code.region id ops true).wpIn (Fence.wide.inRound l) n P Q a w :=
  region_round rfl h hm (any_wide hQ _ _ _ _ (wpAny_of_held _ _ _ _ (hw hS)))
end
end Go.Proofs.YtjcinncphffgaaaGreat
