/- channel: own, of any state; slices.Clone of entries and wins. channel.Voucher, of any state. channel.Token, of any state. The first place where a test holds. -/
import Derived.Outline
import Derived.OwnWalk
import Derived.Lib.SliceRun
import Derived.Deep.RegionHeld3
import Derived.Deep.DeepCutAuto
import Derived.Deep.CutBlock
import Derived.Test.YtdoebmikjgmnaaaGreatMgG00
import Derived.Test.YtdoebmikjgmnaaaGreatMgG10
import Derived.Test.YtdoebmikjgmnaaaGreatMgG12
import Derived.Test.YtdoebmikjgmnaaaGreatMgG22
import Derived.Test.YtdoebmikjgmnaaaGreatMgG24
set_option linter.unusedVariables false
set_option linter.unusedSimpArgs false
namespace Go.Proofs.YtdoebmikjgmnaaaGreat
open Go.RowKit Go.Maps
theorem Tryz.infoEn' : (Tryz.prog.info? 43).map (fun i => (i.zero, i.size, i.bytes)) = some (some (.agg zEn.cs), 11, 128) := by kernel_rfl
theorem Tryz.infoWnC : (Tryz.prog.info? 180).map (fun i => (i.zero, i.size, i.bytes)) = some (some (.agg zWn.cs), 10, 112) := by kernel_rfl
theorem encl_len (o : En) : o.cl.length = 11 := rfl
theorem encl_one (o : En) : ∀ u ∈ o.cl, u.oneCell' = true := by
  intro u hu
  have := encs_one o
  rw [Array.all_eq_true'] at this
  exact this u (by simpa [En.cl] using hu)
theorem wncl_len (o : Wn) : o.cl.length = 10 := rfl
theorem wncl_one (o : Wn) : ∀ u ∈ o.cl, u.oneCell' = true := by
  intro u hu
  have := wncs_one o
  rw [Array.all_eq_true'] at this
  exact this u (by simpa [Wn.cl] using hu)
/-- the same state, its lists elsewhere -/
def St.lists (s : St) (A : Option Addr) (c : Nat) (B : Option Addr) (d : Nat) : St := { s with A := A, c := c, B := B, d := d }
theorem st_set11 (s : St) (A : Option Addr) (c : Nat) : s.cs.setIfInBounds 11 (.slice A s.tops.length c) = (s.lists A c s.B s.d).cs := rfl
theorem st_set15 (s : St) (B : Option Addr) (d : Nat) : s.cs.setIfInBounds 15 (.slice B s.wins.length d) = (s.lists s.A s.c B d).cs := rfl
structure OwnSt (s : St) (w : World) (V : Value) (w' : World) (A : Option Addr) (c : Nat) (B : Option Addr) (d : Nat) : Prop where
  val : V = .agg (s.lists A c B d).cs
  r1 : w'.ownsRow w.heap.size 43 11 (.slice A s.tops.length c) s.tops.length (s.tops.flatMap En.cl)
  r2 : w'.ownsRow w.heap.size 180 10 (.slice B s.wins.length d) s.wins.length (s.wins.flatMap Wn.cl)
  n1 : A = none → c = 0
  n2 : B = none → d = 0
  below : Below w.heap.size w w'
theorem OwnSt.mem {s : St} {w w' : World} {V : Value} {A B : Option Addr} {c d : Nat} (h : OwnSt s w V w' A c B d) : (s.lists A c B d).mem w' := ⟨Sl.of_own encl_len h.r1, Sl.of_own wncl_len h.r2, h.n1, h.n2⟩
end Go.Proofs.YtdoebmikjgmnaaaGreat
namespace Go.Proofs.YtdoebmikjgmnaaaGreat
open Go.RowKit Go.Maps
theorem zStS : zS.cs = zSt := rfl
theorem zStO : zSt.all (·.oneCell') = true := by rw [← zStS]; exact stcs_one _
theorem zStV {cs : Array Value} (h : cs.size = 20) : over cs 0 zSt.toList = zSt := by rw [← zStS]; exact st_over _ h
/-- a state's lists in rows of their own -/
structure LsAt (s : St) (N : Nat) (w : World) (A : Option Addr) (c : Nat) (B : Option Addr) (d : Nat) : Prop where
  r1 : w.ownsRow N 43 11 (.slice A s.tops.length c) s.tops.length (s.tops.flatMap En.cl)
  r2 : w.ownsRow N 180 10 (.slice B s.wins.length d) s.wins.length (s.wins.flatMap Wn.cl)
  n1 : A = none → c = 0
  n2 : B = none → d = 0
theorem LsAt.mem {s : St} {N : Nat} {w : World} {A B : Option Addr} {c d : Nat} (h : LsAt s N w A c B d) : (s.lists A c B d).mem w := ⟨Sl.of_own encl_len h.r1, Sl.of_own wncl_len h.r2, h.n1, h.n2⟩
theorem LsAt.bel {s : St} {N : Nat} {w w' : World} {A B : Option Addr} {c d : Nat} (h : LsAt s N w A c B d) (hb : Below w.heap.size w w') : LsAt s N w' A c B d := ⟨own_belT h.r1 hb, own_belT h.r2 hb, h.n1, h.n2⟩
theorem LsAt.mono {s : St} {N M : Nat} {w : World} {A B : Option Addr} {c d : Nat} (h : LsAt s N w A c B d) (hm : M ≤ N) : LsAt s M w A c B d := ⟨h.r1.mono hm, h.r2.mono hm, h.n1, h.n2⟩
theorem OwnSt.ls {s : St} {w w' : World} {V : Value} {A B : Option Addr} {c d : Nat} (h : OwnSt s w V w' A c B d) : LsAt s w.heap.size w' A c B d := ⟨h.r1, h.r2, h.n1, h.n2⟩
/-- a call on a state: refused, or another state -/
def ChR (s : St) (f : Int) (w : World) (e : Ending) (w' : World) : Prop := Below w.heap.size w w' ∧
  ((f ≠ 0 ∧ e = .returned (.tuple #[.agg zSt, .int .i64 f])) ∨ (f = 0 ∧ ∃ A c B d, e = .returned (.tuple #[.agg (s.lists A c B d).cs, .int .i64 0]) ∧ LsAt s w.heap.size w' A c B d))
def St.vouch (s : St) (am : Nat) (sig : ByteArray) : St := { s with am := am, sig := sig }
theorem st_set12 (s : St) (am : Nat) (sig : ByteArray) : (s.cs.setIfInBounds 12 (.int .u64 (am : Int))).setIfInBounds 13 (.string sig) = (s.vouch am sig).cs := rfl
def vouE (s : St) (am : Nat) (sig : ByteArray) (r : Nat) : Int :=
  if s.closed then 8 else if am ≤ s.am then 11 else if 400 < sig.size then 10 else if verB s.lock.o.key (vouchB s.name am) sig then (if xroomB (s.vouch am sig) r then 0 else 9) else 10
theorem St.fit.vouch {s : St} (h : s.fit) {am : Nat} (ha : am < 18446744073709551616) (sig : ByteArray) : (s.vouch am sig).fit := ⟨h.lam, h.lunit, ha, h.tokens, h.faces, h.nominal, h.tams, h.tops, h.wins, h.tx⟩
theorem St.mem.vouch {s : St} {w : World} (h : s.mem w) (am : Nat) (sig : ByteArray) : (s.vouch am sig).mem w := ⟨h.tops, h.wins, h.topsN, h.winsN⟩
end Go.Proofs.YtdoebmikjgmnaaaGreat
namespace Go.Proofs.YtdoebmikjgmnaaaGreat
open Go.RowKit Go.Maps
/-- how many steps lead from a token to an anchor, as a function -/
def cntGo (a t : ByteArray) : Nat → Nat → Nat × Bool
  | 0, i => (i, decide (itB t i = a))
  | f + 1, i => if itB t i = a then (i, true) else cntGo a t f (i + 1)
theorem cntGo_eq {a t : ByteArray} {most n : Nat} {b : Bool} (h : CntP a t most n b) : ∀ f i, i + f = most → i ≤ n → cntGo a t f i = (n, b)
  | 0, i, hi, hn => by
    obtain ⟨h1, h2, h3, h4⟩ := h
    obtain rfl : n = i := by omega
    rw [cntGo, h3]
  | f + 1, i, hi, hn => by
    obtain ⟨h1, h2, h3, h4⟩ := id h
    rw [cntGo]
    by_cases e : n = i
    · subst e
      rcases h4 with h4 | h4
      · rw [h4] at h3
        rw [if_pos (of_decide_eq_true h3.symm), h4]
      · omega
    · rw [if_neg (h2 i (by omega))]
      exact cntGo_eq h f (i + 1) (by omega) (by omega)
def cntN (a t : ByteArray) (most : Nat) : Nat := if t.size = 16 then (if (cntGo a t most 0).2 then (cntGo a t most 0).1 else 0) else 0
def cntE (a t : ByteArray) (most : Nat) : Int := if t.size = 16 then (if (cntGo a t most 0).2 then 0 else 4) else 1
theorem cntN_le (a t : ByteArray) (most : Nat) (h : ∃ n b, CntP a t most n b) : cntN a t most ≤ most := by
  obtain ⟨n, b, h⟩ := h
  have e := cntGo_eq h most 0 (by omega) (by omega)
  have := h.1
  unfold cntN
  rw [e]
  split
  · split
    · exact this
    · omega
  · omega
theorem count_f (a t : ByteArray) (most : Nat) (w : World) (hm : most ≤ 4096) (ha : a.size = 16) :
    Calls Tryz.prog 99 #[.string a, .string t, .int .i64 most] w fun e w' => e = .returned (.tuple #[.int .i64 (cntN a t most : Nat), .int .i64 (cntE a t most)]) ∧ cntN a t most ≤ most ∧ Below w.heap.size w w' := by
  by_cases ht : t.size = 16
  · refine (count_any a t most w hm ha ht).mono ?_
    rintro e w' ⟨n, b, h, rfl, hb⟩
    have hq := cntGo_eq h most 0 (by omega) (by omega)
    refine ⟨?_, cntN_le a t most ⟨n, b, h⟩, hb⟩
    unfold cntN cntE
    rw [if_pos ht, if_pos ht, hq]
    cases b <;> rfl
  · refine (count_bad a t most w (.inr ht)).mono ?_
    rintro e w' ⟨rfl, hb⟩
    refine ⟨?_, by unfold cntN; rw [if_neg ht]; omega, hb⟩
    unfold cntN cntE
    rw [if_neg ht, if_neg ht]
    rfl
def St.token (s : St) (t : ByteArray) (n : Nat) : St := { s with tok := t, tokens := n }
def tokE (s : St) (t : ByteArray) (mt : Nat) (r : Nat) : Int :=
  if s.closed then 8 else if cntE s.lock.o.anchor t mt ≠ 0 then cntE s.lock.o.anchor t mt else if cntN s.lock.o.anchor t mt ≤ s.tokens then 11 else if xroomB (s.token t (cntN s.lock.o.anchor t mt)) r then 0 else 9
theorem St.fit.token {s : St} (h : s.fit) (t : ByteArray) {n : Nat} (hn : n ≤ 1000000) : (s.token t n).fit := ⟨h.lam, h.lunit, h.am, hn, h.faces, h.nominal, h.tams, h.tops, h.wins, h.tx⟩
theorem St.mem.token {s : St} {w : World} (h : s.mem w) (t : ByteArray) (n : Nat) : (s.token t n).mem w := ⟨h.tops, h.wins, h.topsN, h.winsN⟩
end Go.Proofs.YtdoebmikjgmnaaaGreat
namespace Go.Proofs.YtdoebmikjgmnaaaGreat
def fIdx {α : Type} (q : α → Bool) (l : List α) : Int := if l.any q then (l.findIdx q : Int) else -1
theorem fIdx_none {α : Type} (q : α → Bool) (l : List α) (h : l.any q = false) : fIdx q l = -1 := by unfold fIdx; rw [h]; rfl
theorem fIdx_any {α : Type} (q : α → Bool) (l : List α) : decide ((0 : Int) ≤ fIdx q l) = l.any q := by
  unfold fIdx
  cases l.any q with
  | true => simp
  | false => rfl
theorem fIdx_at {α : Type} (q : α → Bool) (l : List α) (k : Nat) (h : k < l.length) (hn : (l.take k).any q = false) : q l[k] = true → fIdx q l = (k : Int) := by
  intro hq
  have ha : l.any q = true := List.any_eq_true.2 ⟨_, List.getElem_mem h, hq⟩
  unfold fIdx
  rw [ha, if_pos rfl]
  congr 1
  rw [List.findIdx_eq h]
  refine ⟨hq, fun j hj => ?_⟩
  rw [List.any_eq_false] at hn
  have := hn (l[j]'(by omega)) (List.mem_take_iff_getElem.2 ⟨j, by omega, rfl⟩)
  simpa using this
end Go.Proofs.YtdoebmikjgmnaaaGreat
