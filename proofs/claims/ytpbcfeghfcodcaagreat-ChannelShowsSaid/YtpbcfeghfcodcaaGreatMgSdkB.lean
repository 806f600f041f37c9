/- sdk.signed, of a voucher. sdk.Pay where it is refused. sdk.Pay where there is no room. sdk.Give: refused. sdk.Give: no room; given. sdk: released.with: the faces, one more, in a new map. sdk: taken.lay. sdk.Take: had; no room; taken. sdk: what is bound, and whether there is room, in numbers. sdk.Take: no room; no leaf; taken. -/
import Derived.Outline
import Derived.StillTailTactics
import Derived.IntWalk
import Derived.OwnWalk
import Derived.Maps.OwnOps
import Derived.Deep.RegionLaw
import Derived.Deep.RegionHeld3
import Derived.Test.YtpbcfeghfcodcaaGreatMgNum
import Derived.Test.YtpbcfeghfcodcaaGreatMgSdkA
import Derived.Test.YtpbcfeghfcodcaaGreatMgWor
set_option linter.unusedVariables false
set_option linter.unusedSimpArgs false
namespace Go.Proofs.YtpbcfeghfcodcaaGreat
open Go.RowKit Go.Maps
theorem not_str {w : World} {g : Nat} {t : TypeId} {c : Array Value} (h : Blk w g t c) (ht : t ≠ 9) : ∀ g' ∈ [g], ∀ cs fr, w.heap[g']? ≠ some (Obj.cells cs 9 fr) := by
  intro g' hg cs fr he
  simp at hg; subst hg
  unfold Blk at h
  rw [h] at he
  injection he with he
  injection he with _ he
  exact ht he
theorem MpU.ne_at {w : World} {b g : Nat} {D : DU} {t : TypeId} {cs : Array Value} (h : MpU w b D) (hg : Blk w g t cs) : b ∉ [g] := by
  have := h.ne_blk hg
  simpa using this
variable {w : World} {cb h n i out am tk : Nat} {seed tx : ByteArray} {l : Lk} {D : DU}
end Go.Proofs.YtpbcfeghfcodcaaGreat
namespace Go.Proofs.YtpbcfeghfcodcaaGreat
open Go.RowKit Go.Maps
def zRel : Array Value := #[.int .u64 0, .int .i64 0, .map none]
theorem relC_over (am tk mb : Nat) : over zRel 0 (relC am tk mb).toList = relC am tk mb := (over_full (relC am tk mb).toList zRel rfl).trans (Array.toArray_toList ..)
variable {w : World} {cb h n i out am tk : Nat} {seed tx : ByteArray} {l : Lk} {D : DU}
end Go.Proofs.YtpbcfeghfcodcaaGreat
namespace Go.Proofs.YtpbcfeghfcodcaaGreat
open Go.RowKit Go.Maps
theorem relC_set (am tk mb x : Nat) : (relC am tk mb).setIfInBounds 0 (.int .u64 (x : Nat)) = relC x tk mb := rfl
variable {w : World} {cb h n i out am tk : Nat} {seed tx : ByteArray} {l : Lk} {D : DU}
end Go.Proofs.YtpbcfeghfcodcaaGreat
namespace Go.Proofs.YtpbcfeghfcodcaaGreat
open Go.RowKit Go.Maps
variable {w : World} {cb kb ctr pb mb h n i out am tk : Nat} {seed tx : ByteArray} {l : Lk} {D : DU}
end Go.Proofs.YtpbcfeghfcodcaaGreat
namespace Go.Proofs.YtpbcfeghfcodcaaGreat
open Go.RowKit Go.Maps
theorem relC_set1 (am tk mb x t : Nat) (h : (tk : Int) + x = t) : (relC am tk mb).setIfInBounds 1 (.int .i64 (t : Nat)) = relC am t mb := rfl
variable {w : World} {cb kb ctr pb mb h n i out am tk : Nat} {seed tx : ByteArray} {l : Lk} {D : DU}
end Go.Proofs.YtpbcfeghfcodcaaGreat
namespace Go.Proofs.YtpbcfeghfcodcaaGreat
open Go.RowKit Go.Maps
/-- an entry of a map literal -/
theorem wpList_insert_own {H : Type} {P : Program} (w : World) {ops : Array Oper} {rest : List Oper} {o : Oper} {a : Act} {Q : Exit → Act → World → Prop}
    (hg : o.guard = none) (m x v : Operand) (t : TypeId) (hop : o.op = Op.insert t m x v)
    (k e : TypeId) (K : Keyed P k) (ht : P.underlying t = some (.map k e)) (R : Value → Option (DataW H × List MemPlace)) (b n : Nat) (D : DataW H)
    (hm : a.eval m = .map (some b)) (hown : w.ownsMap P k R b n D) (hn : n < maxLen) (key val : Value) (kl : Lit) (hx : a.eval x = key) (hv : a.eval v = val) (hkey : keyOf P k key = some kl)
    (d : DataW H) (ps : List MemPlace) (hval : R val = some (d, ps))
    (hK : ∀ w', w'.ownsMap P k R b (n + 1) (D.put kl d) → w.grownBy w' (some b) → wpList P ops Q rest (a.put o.dst undef) w') :
    wpList P ops Q (o :: rest) a w := by
  refine wpList_plain hg fun K' hK' => ?_
  obtain ⟨w', hrun, r1, r2⟩ := hown.update K ht hn hkey hval
  unfold Oper.wp
  simp [execOp, hop, hm, hx, hv, hrun, Result.andThen]
  exact hK' _ _ (hK w' r1 r2)
def zRelW : Array Value := #[.int .u64 0, .int .i64 0, .map none]
theorem has_nil (kl : Lit) : Maps.has (DataW.map [] : DU) kl = false := rfl
theorem has_put (D : DU) (n c : Nat) (hD : Tidy D) (z : Lit) (hz : WideAt.IsKeyLit z) (h : Maps.has (D.put (ku n) (.lit (ku c))) z = true) : z = ku n ∨ Maps.has D z = true := by
  obtain ⟨es, rfl, hap⟩ := hD
  change Maps.has (.map (DataW.insert (ku n, .lit (ku c)) (es.filter fun p => !p.1.sameKey (ku n)))) z = true at h
  rw [has_eq, List.any_eq_true] at h
  obtain ⟨p, hp, hs⟩ := h
  rcases mem_insert' _ _ _ hp with rfl | hp
  · exact .inl (WideAt.sameKey_eq hs).symm
  · refine .inr ?_
    rw [has_eq, List.any_eq_true]
    exact ⟨p, (List.mem_filter.1 hp).1, hs⟩
variable {w : World} {D : DU}
end Go.Proofs.YtpbcfeghfcodcaaGreat
namespace Go.Proofs.YtpbcfeghfcodcaaGreat
open Go.RowKit Go.Maps
/-- a gate.Op with a ticket -/
def opT (ch : ByteArray) (t : Tk) : Array Value := #[.int .i64 5, .string ch, .string ByteArray.empty, .int .i64 0, .int .i64 0, .int .u64 0, .string ByteArray.empty, .string ByteArray.empty, .int .i64 0, .string ByteArray.empty, .int .u64 0, .int .i64 0, .string ByteArray.empty, .int .u64 0, .int .u64 0, .int .u64 0, .int .u64 0, .string ByteArray.empty, .string t.ch, .int .u64 (t.ser : Nat), .int .u64 (t.face : Nat), .int .u64 (t.wins : Nat), .int .u64 (t.many : Nat), .string t.com, .int .u64 (t.cl : Nat), .string t.sig, .int .i64 0]
theorem opT_one (ch : ByteArray) (t : Tk) : (opT ch t).all (·.oneCell') = true := by
  rw [Array.all_eq_true']
  intro x hx
  simp only [opT, List.mem_toArray, List.mem_cons, List.not_mem_nil, or_false] at hx
  rcases hx with rfl | rfl | rfl | rfl | rfl | rfl | rfl | rfl | rfl | rfl | rfl | rfl | rfl | rfl | rfl | rfl | rfl | rfl | rfl | rfl | rfl | rfl | rfl | rfl | rfl | rfl | rfl <;> rfl
theorem opT_over (kind : Nat) (c : ByteArray) (am : Nat) (s : ByteArray) (ch : ByteArray) (t : Tk) : over (opP kind c am s) 0 (opT ch t).toList = opT ch t := (over_full (opT ch t).toList (opP kind c am s) rfl).trans (Array.toArray_toList ..)
def takC (cb : Nat) (t : Tk) : Array Value := #[.pointer (some ⟨cb, 0, none⟩), .string t.ch, .int .u64 (t.ser : Nat), .int .u64 (t.face : Nat), .int .u64 (t.wins : Nat), .int .u64 (t.many : Nat), .string t.com, .int .u64 (t.cl : Nat), .string t.sig]
def Tk.signed (t : Tk) (sig : ByteArray) : Tk := ⟨t.ch, t.ser, t.face, t.wins, t.many, t.com, t.cl, sig⟩
variable {w : World} {cb kb ctr pb mb h n i out am tk : Nat} {seed tx : ByteArray} {l : Lk} {D : DU}
end Go.Proofs.YtpbcfeghfcodcaaGreat
namespace Go.Proofs.YtpbcfeghfcodcaaGreat
open Go.RowKit Go.Maps
/-- an offer as the client sees it -/
structure Of where
  ch : ByteArray
  ser : Nat
  face : Nat
  wins : Nat
  many : Nat
  com : ByteArray
  salt : ByteArray
  drawn : Nat
  taken : Bool
def Of.cs (o : Of) : Array Value := #[.string o.ch, .int .u64 (o.ser : Nat), .int .u64 (o.face : Nat), .int .u64 (o.wins : Nat), .int .u64 (o.many : Nat), .string o.com, .string o.salt, .int .u64 (o.drawn : Nat), .bool o.taken]
def Of.tk (o : Of) (cl : Nat) : Tk := ⟨o.ch, o.ser, o.face, o.wins, o.many, o.com, cl, ByteArray.empty⟩
structure Of.ok (o : Of) : Prop where
  ser : o.ser < 18446744073709551616
  face : o.face < 18446744073709551616
  many : 1 ≤ o.many ∧ o.many ≤ 4294967296
  wins : o.wins ≤ o.many
  nom : o.face * o.wins % o.many = 0
variable {w : World} {cb kb ctr pb mb h n i out am tk : Nat} {seed tx : ByteArray} {l : Lk} {D : DU}
end Go.Proofs.YtpbcfeghfcodcaaGreat
namespace Go.Proofs.YtpbcfeghfcodcaaGreat
open Go.RowKit Go.Maps
theorem room_yes {am tk u lam : Nat} {D : DU} {A b : Nat} (hA : allD D = (A : Nat)) (hb : am + tk * u + A = b) (hl : b ≤ lam) (h6 : lam < 18446744073709551616) : roomE am tk u lam D = 0 := by
  unfold roomE bdOk bdT
  rw [if_pos]
  have e : ((tk : Int) * u) = ((tk * u : Nat) : Int) := by simp
  refine ⟨⟨?_, ?_⟩, ?_⟩
  · omega
  · rw [hA, e]; omega
  · rw [hA, e]; omega
theorem room_no {am tk u lam : Nat} {D : DU} {A b : Nat} (hA : allD D = (A : Nat)) (hb : am + tk * u + A = b) (hl : lam < b) : roomE am tk u lam D = 9 := by
  unfold roomE bdOk bdT
  rw [if_neg]
  have e : ((tk : Int) * u) = ((tk * u : Nat) : Int) := by simp
  rintro ⟨_, h⟩
  rw [hA, e] at h; omega
theorem bound_yes {am tk u lam : Nat} {D : DU} {A b : Nat} (hA : allD D = (A : Nat)) (hb : am + tk * u + A = b) (hl : b ≤ lam) (h6 : lam < 18446744073709551616) : boundV am tk u D = (b : Int) := by
  have e : ((tk : Int) * u) = ((tk * u : Nat) : Int) := by simp
  have hok : bdOk am tk u D := ⟨by omega, by unfold bdT; rw [hA, e]; omega⟩
  unfold boundV
  rw [if_pos hok]
  unfold bdT
  rw [hA, e]
  omega
end Go.Proofs.YtpbcfeghfcodcaaGreat
namespace Go.Proofs.YtpbcfeghfcodcaaGreat
open Go.RowKit Go.Maps
variable {w : World} {cb kb ctr pb mb h n i out am tk : Nat} {seed tx : ByteArray} {l : Lk} {D : DU}
theorem Of.tkok {o : Of} (hk : o.ok) (hch : o.ch.size = 16) (hcom : o.com.size = 16) {cl : Nat} (hcl : cl < 18446744073709551616) : (o.tk cl).ok := by
  obtain ⟨h1, h2, h3, h4, h5⟩ := hk
  exact ⟨by show o.ch.size ≤ 4096; omega, h1, h2, by show o.wins < _; omega, by show o.many < _; omega, by show o.com.size ≤ 4096; omega, hcl⟩
end Go.Proofs.YtpbcfeghfcodcaaGreat
