/- law17: what any calls keep. law17's fixed: the walk. ChannelClosed: the walk. ChannelRefuses: the walk. law17: a call as its loops make it. ChannelWhole: the walk. law18: its own play, of any state and call. law18: its cut; the state of a channel behind any of its calls; what a claim, and what brings back, pay. -/
import Derived.Outline
import Derived.Deep.RegionHeld3
import Derived.Deep.DeepCutAuto
import Derived.Deep.CutBlock
import Derived.Test.YtjcinncphffgaaaGreatMhClB
import Derived.Test.YtjcinncphffgaaaGreatMhClH
import Derived.Test.YtjcinncphffgaaaGreatMhClM
import Derived.Test.YtjcinncphffgaaaGreatMhG31
import Derived.Test.YtjcinncphffgaaaGreatMhK4
import Derived.Test.YtjcinncphffgaaaGreatMhN1
import Derived.Test.YtjcinncphffgaaaGreatMhNum
import Derived.Test.YtjcinncphffgaaaGreatMhSmC
set_option linter.unusedVariables false
set_option linter.unusedSimpArgs false
namespace Go.Proofs.YtjcinncphffgaaaGreat
open Go.RowKit Go.Maps
/-- a channel's state behind any calls -/
structure Inv (s : St) (mt : Nat) : Prop where
  good : s.good mt
  tops : s.tops.length ≤ 3
  wins : s.wins.length ≤ 3
theorem Inv.lists {s : St} {mt : Nat} (h : Inv s mt) (A : Option Addr) (c : Nat) (B : Option Addr) (d : Nat) : Inv (s.lists A c B d) mt :=
  ⟨⟨⟨h.good.fit.lam, h.good.fit.lunit, h.good.fit.am, h.good.fit.tokens, h.good.fit.faces, h.good.fit.nominal, h.good.fit.tams, h.good.fit.tops, h.good.fit.wins, h.good.fit.tx⟩, h.good.an, h.good.tok, h.good.mt, h.good.tops, h.good.wins⟩, h.tops, h.wins⟩
end Go.Proofs.YtjcinncphffgaaaGreat
namespace Go.Proofs.YtjcinncphffgaaaGreat
open Go.RowKit Go.Maps
end Go.Proofs.YtjcinncphffgaaaGreat
namespace Go.Proofs.YtjcinncphffgaaaGreat
open Go.RowKit Go.Maps
end Go.Proofs.YtjcinncphffgaaaGreat
namespace Go.Proofs.YtjcinncphffgaaaGreat
open Go.RowKit Go.Maps
end Go.Proofs.YtjcinncphffgaaaGreat
namespace Go.Proofs.YtjcinncphffgaaaGreat
open Go.RowKit Go.Maps
theorem new_worth (x : En) : worthV (newS x) = 0 := by
  show capL [(0 : Int), tokV 0 x.o.unit, 0] = 0
  have e : tokV 0 x.o.unit = 0 := by unfold tokV; simp
  rw [e]; rfl
theorem whole_tot (s : St) (h : totI ((s.lock.o.am : Int) :: topsI s.tops) < 18446744073709551616) : totV ((s.lock.o.am : Int) :: topsI s.tops) = wholeV s ∧ totE ((s.lock.o.am : Int) :: topsI s.tops) = 0 := by
  constructor
  · unfold totV wholeV capL; rw [if_pos h, if_pos h]
  · exact if_pos h
end Go.Proofs.YtjcinncphffgaaaGreat
namespace Go.Proofs.YtjcinncphffgaaaGreat
open Go.RowKit Go.Maps
end Go.Proofs.YtjcinncphffgaaaGreat
namespace Go.Proofs.YtjcinncphffgaaaGreat
open Go.RowKit Go.Maps
end Go.Proofs.YtjcinncphffgaaaGreat
namespace Go.Proofs.YtjcinncphffgaaaGreat
open Go.RowKit Go.Maps
/-- as law17 makes the call: what is none of the first three kinds locks more -/
def k3 (o : Op17) : Op17 := if o.kind = 0 ∨ o.kind = 1 ∨ o.kind = 2 then o else { o with kind := 3 }
/-! what is paid -/
end Go.Proofs.YtjcinncphffgaaaGreat
