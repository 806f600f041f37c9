/- sdk.Take: no room; no leaf; taken. sdk: a client without a channel: Root, Name, Whole; Pay, Back refused come later. sdk.Output of a client without a channel. sdk.Attach, taken. -/
import Derived.Outline
import Derived.StillTailTactics
import Derived.Deep.RegionHeld3
import Derived.Test.YtdoebmikjgmnaaaGreatMgG13
import Derived.Test.YtdoebmikjgmnaaaGreatMgG14
import Derived.Test.YtdoebmikjgmnaaaGreatMgG16
import Derived.Test.YtdoebmikjgmnaaaGreatMgG17
import Derived.Test.YtdoebmikjgmnaaaGreatMgRoom
import Derived.Test.YtdoebmikjgmnaaaGreatMgSdkK
set_option linter.unusedVariables false
set_option linter.unusedSimpArgs false
namespace Go.Proofs.YtdoebmikjgmnaaaGreat
open Go.RowKit Go.Maps
variable {w : World} {cb kb ctr pb mb h n i out am tk : Nat} {seed tx : ByteArray} {l : Lk} {D : DU}
theorem Of.tkok {o : Of} (hk : o.ok) (hch : o.ch.size = 16) (hcom : o.com.size = 16) {cl : Nat} (hcl : cl < 18446744073709551616) : (o.tk cl).ok := by
  obtain ⟨h1, h2, h3, h4, h5⟩ := hk
  exact ⟨by show o.ch.size ≤ 4096; omega, h1, h2, by show o.wins < _; omega, by show o.many < _; omega, by show o.com.size ≤ 4096; omega, hcl⟩
end Go.Proofs.YtdoebmikjgmnaaaGreat
namespace Go.Proofs.YtdoebmikjgmnaaaGreat
open Go.RowKit Go.Maps
variable {w : World} {cb h n i : Nat} {seed : ByteArray}
end Go.Proofs.YtdoebmikjgmnaaaGreat
namespace Go.Proofs.YtdoebmikjgmnaaaGreat
open Go.RowKit Go.Maps
theorem infoOut : (Tryz.prog.info? 41).map (·.size) = some 9 := by kernel_rfl
def zOut : Array Value := #[.int .i64 0, .int .u64 0, .string ByteArray.empty, .string ByteArray.empty, .int .i64 0, .string ByteArray.empty, .int .u64 0, .int .i64 0, .string ByteArray.empty]
def oOut (am : Nat) (key gate : ByteArray) (ex : Nat) (an : ByteArray) (unit n : Nat) : Array Value := #[.int .i64 2, .int .u64 (am : Nat), .string key, .string gate, .int .i64 (ex : Nat), .string an, .int .u64 (unit : Nat), .int .i64 (n : Nat), .string ByteArray.empty]
theorem oOut_one (am : Nat) (key gate : ByteArray) (ex : Nat) (an : ByteArray) (unit n : Nat) : (oOut am key gate ex an unit n).all (·.oneCell') = true := by
  rw [Array.all_eq_true']
  intro x hx
  simp only [oOut, List.mem_toArray, List.mem_cons, List.not_mem_nil, or_false] at hx
  rcases hx with rfl | rfl | rfl | rfl | rfl | rfl | rfl | rfl | rfl <;> rfl
theorem oOut_over (am : Nat) (key gate : ByteArray) (ex : Nat) (an : ByteArray) (unit n : Nat) : over zOut 0 (oOut am key gate ex an unit n).toList = oOut am key gate ex an unit n := (over_full (oOut am key gate ex an unit n).toList zOut rfl).trans (Array.toArray_toList ..)
variable {w : World} {cb h n i : Nat} {seed : ByteArray}
end Go.Proofs.YtdoebmikjgmnaaaGreat
namespace Go.Proofs.YtdoebmikjgmnaaaGreat
open Go.RowKit Go.Maps
/-- a client on its way to a channel -/
def clS (kb pb mb : Nat) (tx : ByteArray) (out : Nat) (l : Lk) : Array Value := (clC kb pb mb tx out l 0 0).setIfInBounds 22 (.bool false)
theorem clS_over (kb pb mb : Nat) (tx : ByteArray) (out : Nat) (l : Lk) : over (clZ kb pb mb) 2 (stC tx out l).toList = clS kb pb mb tx out l := by
  simp [clS, clZ, clC, stC, over]
theorem clS_set (kb pb mb : Nat) (tx : ByteArray) (out : Nat) (l : Lk) : (clS kb pb mb tx out l).setIfInBounds 22 (.bool true) = clC kb pb mb tx out l 0 0 := by
  simp [clS, clC]
variable {w : World} {cb h n i : Nat} {seed : ByteArray}
end Go.Proofs.YtdoebmikjgmnaaaGreat
