/- sdk: the client in memory; New, Root, Left, Name, Whole. sdk: Root, Left, Name, Whole of a client on a channel. sdk.bound. sdk: Bound, room. sdk: paid.lay. lottery.Ticket. note: Ticket.may, Won. note: Proof.paid, tokens, Right. note.Right, of any proof. -/
import Derived.Outline
import Derived.OwnWalk
import Derived.Deep.RegionLaw
import Derived.Test.YtpbcfeghfcodcaaGreatMgMerk
import Derived.Test.YtpbcfeghfcodcaaGreatMgNote
set_option linter.unusedVariables false
set_option linter.unusedSimpArgs false
namespace Go.Proofs.YtpbcfeghfcodcaaGreat
open Go.RowKit Go.Maps
/-- a client without a channel -/
def clZ (kb pb mb : Nat) : Array Value := #[.pointer (some ⟨kb, 0, none⟩), .pointer (some ⟨pb, 0, none⟩), .string ByteArray.empty, .int .i64 0, .int .i64 0, .int .u64 0, .string ByteArray.empty, .string ByteArray.empty, .int .i64 0, .string ByteArray.empty, .int .u64 0, .int .i64 0, .string ByteArray.empty, .slice none 0 0, .int .u64 0, .string ByteArray.empty, .string ByteArray.empty, .slice none 0 0, .int .i64 0, .int .u64 0, .int .u64 0, .bool false, .bool false, .int .u64 0, .int .i64 0, .map (some mb)]
/-- a client on a channel -/
def clC (kb pb mb : Nat) (tx : ByteArray) (out : Nat) (l : Lk) (am tk : Nat) : Array Value := #[.pointer (some ⟨kb, 0, none⟩), .pointer (some ⟨pb, 0, none⟩), .string tx, .int .i64 (out : Nat), .int .i64 2, .int .u64 (l.am : Nat), .string l.key, .string l.gate, .int .i64 (l.ex : Nat), .string l.anchor, .int .u64 (l.unit : Nat), .int .i64 (l.tok : Nat), .string ByteArray.empty, .slice none 0 0, .int .u64 0, .string ByteArray.empty, .string ByteArray.empty, .slice none 0 0, .int .i64 0, .int .u64 0, .int .u64 0, .bool false, .bool true, .int .u64 (am : Nat), .int .i64 (tk : Nat), .map (some mb)]
end Go.Proofs.YtpbcfeghfcodcaaGreat
namespace Go.Proofs.YtpbcfeghfcodcaaGreat
open Go.RowKit Go.Maps
/-- a struct in the midst of a block that is known whole is read -/
theorem wpList_load_blk {ops : Array Oper} {rest : List Oper} {o : Oper} {a : Act} {w : World} {Q : Exit → Act → World → Prop} (hgd : o.guard = none) (ty : TypeId) (x : Operand) (ho : o.op = .load ty x)
    (g off n : Nat) {t : TypeId} {cs : Array Value} {fs : Array Field} (hb : Blk w g t cs) (part : Array Value) (hx : a.eval x = .pointer (some ⟨g, off, none⟩)) (hp : cs.extract off (off + n) = part)
    (hu : Tryz.prog.underlying ty = some (.struct fs)) (hi : (Tryz.prog.info? ty).map (·.size) = some n) (hn : off + n ≤ cs.size)
    (h : wpList Tryz.prog ops Q rest (a.put o.dst (.agg part)) w) : wpList Tryz.prog ops Q (o :: rest) a w := by
  subst hp
  refine wpList_load_mid hgd ty x ho g off hx (cs.extract off (off + n)).toList _ (World.rangeAt_of_block (w := w) (b := g) (C := cs) (t := t) (fr := (0, 0)) hb off n) hu rfl (by rw [hi]; simp; omega) ?_
  rw [Array.toArray_toList]
  exact h
theorem infoPnt : (Tryz.prog.info? 23).map (·.size) = some 2 := by kernel_rfl
variable {w : World} {cb h n i out am tk : Nat} {seed tx : ByteArray} {l : Lk} {D : DU}
end Go.Proofs.YtpbcfeghfcodcaaGreat
namespace Go.Proofs.YtpbcfeghfcodcaaGreat
open Go.RowKit Go.Maps
theorem Tryz.infoU64 : (Tryz.prog.info? 24).map (fun i => (i.zero, i.size, i.bytes)) = some (some (.int .u64 0), 1, 8) := by kernel_rfl
def relC (am tk mb : Nat) : Array Value := #[.int .u64 (am : Nat), .int .i64 (tk : Nat), .map (some mb)]
def bdT (am tk u : Nat) (D : DU) : Int := am + tk * u + allD D
def bdV (am tk u : Nat) (D : DU) : Int := if tk * u < 18446744073709551616 ∧ bdT am tk u D < 18446744073709551616 then bdT am tk u D else 0
def bdE (am tk u : Nat) (D : DU) : Int := if tk * u < 18446744073709551616 ∧ bdT am tk u D < 18446744073709551616 then 0 else 2
theorem own_ne_iter {w : World} {base k n r : Nat} {e : TypeId} {A : Option Addr} {c m : Nat} {xs : List Value} {o : Obj} (h : w.ownsRow base e k (.slice A m c) n xs) (hr : w.heap[r]? = some o) (ho : ∀ cs t fr, o ≠ .cells cs t fr) : ∀ b, (Value.slice A m c).ownBlock = some b → b ∉ [r] := by
  intro b hb hm
  simp at hm; subst hm
  obtain ⟨_, h | ⟨g, cap, cur, hv, _, hg, _⟩⟩ := h
  · obtain ⟨hv, _⟩ := h
    rw [hv] at hb; simp [Value.ownBlock] at hb
  · rw [hv] at hb
    simp [Value.ownBlock] at hb
    subst hb
    rw [hg] at hr
    injection hr with hr
    exact ho _ _ _ hr.symm
theorem ch_none {w w' : World} (hg : w.grownBy w' none) : Ch [] w w' := ⟨hg.os, hg.tape, hg.output, hg.size, fun k hk _ => hg.block k hk (by simp)⟩
theorem wf64 {x : Int} (h : (Lit.int .u64 x).wf = true) : 0 ≤ x ∧ x < 18446744073709551616 := by
  have : 0 ≤ x ∧ x ≤ 18446744073709551615 := by simpa [Lit.wf, IntKind.min, IntKind.max, IntKind.signed, IntKind.bits] using h
  omega
theorem ranges_iter {w : World} {b r n : Nat} {D : DU} {left : Lit → Bool} {cnt : Nat} (h : w.ranges Tryz.prog 24 elU b r n D left cnt) : ∃ o, w.heap[r]? = some o ∧ ∀ cs t fr, o ≠ .cells cs t fr := by
  obtain ⟨_, _, _, _, _, _, _, _, _, hr, _⟩ := h
  exact ⟨_, hr, fun _ _ _ e => by cases e⟩
theorem ranges_map {w : World} {b r n : Nat} {D : DU} {left : Lit → Bool} {cnt : Nat} (h : w.ranges Tryz.prog 24 elU b r n D left cnt) : ∃ o, w.heap[b]? = some o ∧ ∀ cs t fr, o ≠ .cells cs t fr := by
  obtain ⟨_, _, _, _, _, hb, _⟩ := h
  exact ⟨_, hb, fun _ _ _ e => by cases e⟩
theorem mulV_bd (a b : Nat) : 0 ≤ mulV a b ∧ mulV a b < 18446744073709551616 := by
  have h : (0 : Int) ≤ (a : Int) * b := Int.mul_nonneg (by omega) (by omega)
  unfold mulV
  generalize (a : Int) * b = p at *
  by_cases hp : p < 18446744073709551616
  · rw [if_pos hp]; omega
  · rw [if_neg hp]; omega
theorem u64_flat (l : List Int) : l.flatMap u64c = l.map (Value.int .u64) := by
  induction l with
  | nil => rfl
  | cons a r ih => rw [List.flatMap_cons, ih]; rfl
theorem bd_no {am tk u : Nat} {D : DU} (h : ¬ (tk : Int) * u < 18446744073709551616) : bdV am tk u D = 0 ∧ bdE am tk u D = 2 := by
  have h' : ¬ (tk * u < 18446744073709551616 ∧ bdT am tk u D < 18446744073709551616) := fun k => h (by have := k.1; rw [← Int.natCast_mul]; omega)
  exact ⟨if_neg h', if_neg h'⟩
theorem bd_yes {am tk u : Nat} {D : DU} {ns : List Int} (h : (tk : Int) * u < 18446744073709551616) (hs : totI ns = allD D) : totV ((am : Int) :: mulV tk u :: ns) = bdV am tk u D ∧ totE ((am : Int) :: mulV tk u :: ns) = bdE am tk u D := by
  have e : totI ((am : Int) :: mulV tk u :: ns) = bdT am tk u D := by
    simp only [totI, bdT, mulV, if_pos h, hs]; omega
  have h' : tk * u < 18446744073709551616 := by rw [← Int.natCast_mul] at h; omega
  unfold totV totE bdV bdE
  rw [e]
  by_cases hb : bdT am tk u D < 18446744073709551616
  · simp [hb, h']
  · simp [hb]
variable {w : World} {cb h n i out am tk : Nat} {seed tx : ByteArray} {l : Lk} {D : DU}
end Go.Proofs.YtpbcfeghfcodcaaGreat
namespace Go.Proofs.YtpbcfeghfcodcaaGreat
open Go.RowKit Go.Maps
def bdOk (am tk u : Nat) (D : DU) : Prop := tk * u < 18446744073709551616 ∧ bdT am tk u D < 18446744073709551616
instance (am tk u : Nat) (D : DU) : Decidable (bdOk am tk u D) := inferInstanceAs (Decidable (_ ∧ _))
def boundV (am tk u : Nat) (D : DU) : Int := if bdOk am tk u D then bdT am tk u D else 18446744073709551615
def roomE (am tk u lam : Nat) (D : DU) : Int := if bdOk am tk u D ∧ bdT am tk u D ≤ lam then 0 else 9
theorem bdV_ok {am tk u : Nat} {D : DU} (h : bdOk am tk u D) : bdV am tk u D = bdT am tk u D ∧ bdE am tk u D = 0 := ⟨if_pos h, if_pos h⟩
theorem bdV_no {am tk u : Nat} {D : DU} (h : ¬ bdOk am tk u D) : bdV am tk u D = 0 ∧ bdE am tk u D = 2 := ⟨if_neg h, if_neg h⟩
variable {w : World} {cb h n i out am tk : Nat} {seed tx : ByteArray} {l : Lk} {D : DU}
end Go.Proofs.YtpbcfeghfcodcaaGreat
namespace Go.Proofs.YtpbcfeghfcodcaaGreat
open Go.RowKit Go.Maps
/-- a part of a block is written: the world behind it by what is known of it -/
theorem wpList_store_part {ops : Array Oper} {rest : List Oper} {o : Oper} {a : Act} {w : World} {Q : Exit → Act → World → Prop} (hgd : o.guard = none) (ty : TypeId) (x y : Operand) (ho : o.op = .store ty x y)
    (g off : Nat) {t : TypeId} {cs : Array Value} (hb : Blk w g t cs) (cells cs' : Array Value) (hx : a.eval x = .pointer (some ⟨g, off, none⟩)) (hy : a.eval y = .agg cells)
    (hs : off + cells.size ≤ cs.size) (hi : (Tryz.prog.info? ty).map (·.size) = some cells.size) (h1 : cells.all (·.oneCell') = true) (hc : over cs off cells.toList = cs')
    (h : ∀ W, Blk W g t cs' → Ch [g] w W → wpList Tryz.prog ops Q rest (a.put o.dst undef) W) : wpList Tryz.prog ops Q (o :: rest) a w :=
  wpList_store_mid hgd ty x y ho g off cells hx hy (fun j hj => ⟨by rw [hb.cell, Array.getElem?_eq_getElem (by omega)]; rfl, hb.frozen _⟩) hi h1
    (h _ (hc ▸ blk_setCells cells.toList off hb) (Ch.setCells (by simp) _ _ _))
/-- .. in a region that draws its order -/
theorem step_store_part {ops : Array Oper} {o : Oper} {a : Act} {w : World} {K : Act → World → Prop} {Q : Exit → Act → World → Prop} {E : Prop} (hgd : o.guard = none) (ty : TypeId) (x y : Operand) (ho : o.op = .store ty x y)
    (g off : Nat) {t : TypeId} {cs : Array Value} (hb : Blk w g t cs) (cells cs' : Array Value) (hx : a.eval x = .pointer (some ⟨g, off, none⟩)) (hy : a.eval y = .agg cells)
    (hs : off + cells.size ≤ cs.size) (hi : (Tryz.prog.info? ty).map (·.size) = some cells.size) (h1 : cells.all (·.oneCell') = true) (hc : over cs off cells.toList = cs')
    (h : ∀ W, Blk W g t cs' → Ch [g] w W → K (a.put o.dst undef) W) : if Region.wanted o (yielded ops a.tmps) = true then Oper.wp Tryz.prog o a w K Q else E := by
  have hw : Region.wanted o (yielded ops a.tmps) = true := by simp [Region.wanted, hgd]
  rw [if_pos hw]
  exact wp_store_mid ty x y ho g off cells hx hy (fun j hj => ⟨by rw [hb.cell, Array.getElem?_eq_getElem (by omega)]; rfl, hb.frozen _⟩) hi h1
    (h _ (hc ▸ blk_setCells cells.toList off hb) (Ch.setCells (by simp) _ _ _))
def opC (kind : Nat) (ch : ByteArray) (am : Nat) (s : ByteArray) (t : Array Value) : Array Value := #[.int .i64 (kind : Nat), .string ch, .string ByteArray.empty, .int .i64 0, .int .i64 0, .int .u64 0, .string ByteArray.empty, .string ByteArray.empty, .int .i64 0, .string ByteArray.empty, .int .u64 0, .int .i64 0, .string ByteArray.empty, .int .u64 (am : Nat), .int .u64 0, .int .u64 0, .int .u64 0, .string s] ++ t ++ #[.int .i64 0]
def zTk : Array Value := #[.string ByteArray.empty, .int .u64 0, .int .u64 0, .int .u64 0, .int .u64 0, .string ByteArray.empty, .int .u64 0, .string ByteArray.empty]
def opP (kind : Nat) (ch : ByteArray) (am : Nat) (s : ByteArray) : Array Value := #[.int .i64 (kind : Nat), .string ch, .string ByteArray.empty, .int .i64 0, .int .i64 0, .int .u64 0, .string ByteArray.empty, .string ByteArray.empty, .int .i64 0, .string ByteArray.empty, .int .u64 0, .int .i64 0, .string ByteArray.empty, .int .u64 (am : Nat), .int .u64 0, .int .u64 0, .int .u64 0, .string s, .string ByteArray.empty, .int .u64 0, .int .u64 0, .int .u64 0, .int .u64 0, .string ByteArray.empty, .int .u64 0, .string ByteArray.empty, .int .i64 0]
theorem opP_one (kind : Nat) (ch : ByteArray) (am : Nat) (s : ByteArray) : (opP kind ch am s).all (·.oneCell') = true := by
  rw [Array.all_eq_true']
  intro x hx
  simp only [opP, List.mem_toArray, List.mem_cons, List.not_mem_nil, or_false] at hx
  rcases hx with rfl | rfl | rfl | rfl | rfl | rfl | rfl | rfl | rfl | rfl | rfl | rfl | rfl | rfl | rfl | rfl | rfl | rfl | rfl | rfl | rfl | rfl | rfl | rfl | rfl | rfl | rfl <;> rfl
theorem opP_size (kind : Nat) (ch : ByteArray) (am : Nat) (s : ByteArray) : (opP kind ch am s).size = 27 := rfl
theorem opP_over (kind : Nat) (ch : ByteArray) (am : Nat) (s : ByteArray) (kind' : Nat) (ch' : ByteArray) (am' : Nat) (s' : ByteArray) : over (opP kind ch am s) 0 (opP kind' ch' am' s').toList = opP kind' ch' am' s' := by
  exact (over_full (opP kind' ch' am' s').toList (opP kind ch am s) (by rw [Array.length_toList, opP_size, opP_size])).trans (Array.toArray_toList ..)
theorem opP_fits (kind : Nat) (ch : ByteArray) (am : Nat) (s : ByteArray) (kind' : Nat) (ch' : ByteArray) (am' : Nat) (s' : ByteArray) : 0 + (opP kind' ch' am' s').size ≤ (opP kind ch am s).size := by
  rw [opP_size, opP_size]; omega
theorem relC_one (am tk mb : Nat) : (relC am tk mb).all (·.oneCell') = true := by
  rw [Array.all_eq_true']
  intro x hx
  simp only [relC, List.mem_toArray, List.mem_cons, List.not_mem_nil, or_false] at hx
  rcases hx with rfl | rfl | rfl <;> rfl
def padC (cb am tk mb : Nat) : Array Value := #[.pointer (some ⟨cb, 0, none⟩), .int .u64 (am : Nat), .int .i64 (tk : Nat), .map (some mb)]
variable {w : World} {cb h n i out am tk : Nat} {seed tx : ByteArray} {l : Lk} {D : DU}
end Go.Proofs.YtpbcfeghfcodcaaGreat
namespace Go.Proofs.YtpbcfeghfcodcaaGreat
open Go.RowKit Go.Maps
theorem infoTk : (Tryz.prog.info? 43).map (·.size) = some 8 := by kernel_rfl
theorem tkcs_one (t : Tk) : (t.cs).all (·.oneCell') = true := by
  rw [Array.all_eq_true']
  intro x hx
  simp only [Tk.cs, List.mem_toArray, List.mem_cons, List.not_mem_nil, or_false] at hx
  rcases hx with rfl | rfl | rfl | rfl | rfl | rfl | rfl | rfl <;> rfl
def zTick : Tk := ⟨ByteArray.empty, 0, 0, 0, 0, ByteArray.empty, 0, ByteArray.empty⟩
theorem tkcs_over (s t : Tk) : over s.cs 0 t.cs.toList = t.cs := (over_full t.cs.toList s.cs rfl).trans (Array.toArray_toList ..)
end Go.Proofs.YtpbcfeghfcodcaaGreat
namespace Go.Proofs.YtpbcfeghfcodcaaGreat
open Go.RowKit
theorem tkcs_get (t : Tk) : True := trivial
def tmayB (t : Tk) : Bool := decide (t.ch.size = 16) && decide (t.com.size = 16) && decide (t.sig.size ≤ 400)
set_option maxRecDepth 100000 in
set_option maxHeartbeats 1000000 in
theorem tmay_any (t : Tk) (w : World) : Calls Tryz.prog 44 #[.agg t.cs] w fun e w' => e = .returned (.bool (tmayB t)) ∧ Below w.heap.size w w' := by
  obtain ⟨ch, ser, face, wins, many, com, cl, sig⟩ := t
  simp only [Tk.cs, tmayB]
  by_cases h1 : ch.size = 16
  · have d1 : ((ch.size : Int) == 16) = true := by rw [h1]; rfl
    rw [decide_eq_true h1]
    by_cases h2 : com.size = 16
    · have d2 : ((com.size : Int) == 16) = true := by rw [h2]; rfl
      rw [decide_eq_true h2]
      have d3 : decide ((sig.size : Int) ≤ 400) = decide (sig.size ≤ 400) := by rw [decide_eq_decide]; omega
      generalize decide (sig.size ≤ 400) = d at d3 ⊢
      simp only [Bool.true_and]
      clear h1 h2
      go_enter Tryz.func44, Tryz.ntmps44
      go_wp2_with fail
      go_ret
      exact ⟨rfl, (Below.refl _ _).alloc (Nat.le_refl _) _⟩
    · have d2 : ((com.size : Int) == 16) = false := beq_eq_false_iff_ne.2 (by omega)
      rw [decide_eq_false h2]
      simp only [Bool.and_false, Bool.false_and]
      clear h1 h2
      go_enter Tryz.func44, Tryz.ntmps44
      go_wp2_with fail
      go_ret
      exact ⟨rfl, (Below.refl _ _).alloc (Nat.le_refl _) _⟩
  · have d1 : ((ch.size : Int) == 16) = false := beq_eq_false_iff_ne.2 (by omega)
    rw [decide_eq_false h1]
    simp only [Bool.false_and]
    clear h1
    go_enter Tryz.func44, Tryz.ntmps44
    go_wp2_with fail
    go_ret
    exact ⟨rfl, (Below.refl _ _).alloc (Nat.le_refl _) _⟩
/-- a ticket with what was hidden -/
structure Wn where
  t : Tk
  salt : ByteArray
  drawn : Nat
def Wn.cs (x : Wn) : Array Value := #[.string x.t.ch, .int .u64 (x.t.ser : Nat), .int .u64 (x.t.face : Nat), .int .u64 (x.t.wins : Nat), .int .u64 (x.t.many : Nat), .string x.t.com, .int .u64 (x.t.cl : Nat), .string x.t.sig, .string x.salt, .int .u64 (x.drawn : Nat)]
/-- numbers that fit -/
structure Wn.fit (x : Wn) : Prop where
  ser : x.t.ser < 18446744073709551616
  face : x.t.face < 18446744073709551616
  wins : x.t.wins < 18446744073709551616
  many : x.t.many < 18446744073709551616
  cl : x.t.cl < 18446744073709551616
  drawn : x.drawn < 18446744073709551616
  salt : x.salt.size ≤ 1000000
def wonE (client : ByteArray) (x : Wn) : Int :=
  if tmayB x.t && winsOk x.drawn x.t.wins x.t.many then
    if verB client (textB x.t) x.t.sig then
      if x.t.com = comB x.salt x.drawn then
        if winsB x.drawn x.t.cl x.t.wins x.t.many then 0 else 13
      else 4
    else 10
  else 1
def wonV (client : ByteArray) (x : Wn) : Nat := if wonE client x = 0 then x.t.face else 0
theorem infoTk' : (Tryz.prog.info? 43).map (·.size) = some 8 := by kernel_rfl
theorem tmay_ok {x : Wn} (hf : x.fit) (h : tmayB x.t = true) : x.t.ok := by
  unfold tmayB at h
  simp at h
  exact ⟨by omega, hf.ser, hf.face, hf.wins, hf.many, by omega, hf.cl⟩
set_option maxRecDepth 100000 in
set_option maxHeartbeats 2000000 in
theorem won_any (client : ByteArray) (x : Wn) (w : World) (hf : x.fit) :
    Calls Tryz.prog 79 #[.string client, .agg x.cs] w fun e w' => e = .returned (.tuple #[.int .u64 (wonV client x : Nat), .int .i64 (wonE client x)]) ∧ Below w.heap.size w w' := by
  have HM := fun W => Lib.hid (tmay_any x.t W)
  have HX := Lib.hid (Blk.new w 45 x.cs)
  have HA0 : Hid (Below w.heap.size w (w.alloc (.cells x.cs 45))) := (Below.refl _ _).alloc (Nat.le_refl _) _
  have hsi : tmayB x.t = true → x.t.sig.size ≤ 1000000 := fun h => by unfold tmayB at h; simp at h; omega
  have HTO := Lib.hid (tmay_ok hf)
  have hs : ∀ i, (w.alloc (.cells x.cs 45)).cell? ⟨w.heap.size, i, none⟩ = x.cs[i]? := fun i => HX.out.cell i
  have c9 : (w.alloc (.cells x.cs 45)).cell? ⟨w.heap.size, 9, none⟩ = some (.int .u64 x.drawn) := hs 9
  have c6 : (w.alloc (.cells x.cs 45)).cell? ⟨w.heap.size, 6, none⟩ = some (.int .u64 x.t.cl) := hs 6
  have c3 : (w.alloc (.cells x.cs 45)).cell? ⟨w.heap.size, 3, none⟩ = some (.int .u64 x.t.wins) := hs 3
  have c4 : (w.alloc (.cells x.cs 45)).cell? ⟨w.heap.size, 4, none⟩ = some (.int .u64 x.t.many) := hs 4
  have h6 := hf.cl
  have h9 := hf.many
  clear hs
  by_cases hw : winsOk x.drawn x.t.wins x.t.many = true
  · have HWI := fun W => Lib.hid (wins_ok x.drawn x.t.cl x.t.wins x.t.many W h6 hw)
    clear h9
    cases hm : tmayB x.t with
    | false =>
      rw [hm] at HM
      rw [show wonE client x = 1 by unfold wonE; rw [hm]; simp, show wonV client x = 0 by unfold wonV wonE; rw [hm]; simp]
      clear hw hsi HTO h6 hf hm
      go_enter Tryz.func79, Tryz.ntmps79
      go_wp2_with fail
      refine (HWI _).out.mono ?_
      rintro e w1 ⟨rfl, rfl⟩
      clear c9 c6 c3 c4
      go_wp2_with (first | (refine wpList_load_blk rfl 43 (.tmp 24) rfl _ 0 8 HX.out (Tk.cs x.t) (by rfl) (by rfl) Tryz.underlying43 infoTk' (by show 8 ≤ 10; omega) ?_))
      refine (HM _).out.mono ?_
      rintro e w2 ⟨rfl, hb2⟩
      have HB : Hid (Below w.heap.size w w2) := HA0.out.trans (hb2.mono HA0.out.size)
      clear hb2
      go_wp2_with fail
      go_ret2
      exact ⟨rfl, HB.out⟩
    | true =>
      rw [hm] at HM
      have HSG := fun W => Lib.hid (signed_any client x.t W (HTO.out hm) (hsi hm))
      have HOP := fun W => Lib.hid (opens_any x.t.com x.salt x.drawn W hf.drawn hf.salt)
      have HE : Hid (wonE client x = if verB client (textB x.t) x.t.sig then (if decide (x.t.com = comB x.salt x.drawn) then (if winsB x.drawn x.t.cl x.t.wins x.t.many then 0 else 13) else 4) else 10) := by
        show _ = _
        unfold wonE
        rw [hm, hw]
        simp
      have HV : Hid (wonV client x = if wonE client x = 0 then x.t.face else 0) := rfl
      have c2 : Hid (x.cs[2]? = some (.int .u64 x.t.face)) := by show _ = _; rfl
      have c5 : Hid (x.cs[5]? = some (.string x.t.com)) := by show _ = _; rfl
      have c8 : Hid (x.cs[8]? = some (.string x.salt)) := by show _ = _; rfl
      have c9' : Hid (x.cs[9]? = some (.int .u64 x.drawn)) := by show _ = _; rfl
      generalize verB client (textB x.t) x.t.sig = v at HSG HE
      generalize decide (x.t.com = comB x.salt x.drawn) = o at HOP HE
      generalize winsB x.drawn x.t.cl x.t.wins x.t.many = b at HWI HE
      generalize wonE client x = ee at HE HV ⊢
      generalize wonV client x = vv at HV ⊢
      clear hw hsi HTO h6 hf hm
      go_enter Tryz.func79, Tryz.ntmps79
      go_wp2_with fail
      refine (HWI _).out.mono ?_
      rintro e w1 ⟨rfl, rfl⟩
      clear c9 c6 c3 c4
      go_wp2_with (first | (refine wpList_load_blk rfl 43 (.tmp 24) rfl _ 0 8 HX.out (Tk.cs x.t) (by rfl) (by rfl) Tryz.underlying43 infoTk' (by show 8 ≤ 10; omega) ?_))
      refine (HM _).out.mono ?_
      rintro e w2 ⟨rfl, hb2⟩
      replace HX := Lib.hid (HX.out.bel hb2)
      have HB : Hid (Below w.heap.size w w2) := HA0.out.trans (hb2.mono HA0.out.size)
      clear hb2
      go_wp2_with (first | (refine wpList_load_blk rfl 43 (.tmp 34) rfl _ 0 8 HX.out (Tk.cs x.t) (by rfl) (by rfl) Tryz.underlying43 infoTk' (by show 8 ≤ 10; omega) ?_))
      refine (HSG _).out.mono ?_
      rintro e w3 ⟨rfl, hb3⟩
      replace HX := Lib.hid (HX.out.bel hb3)
      replace HB := Lib.hid (HB.out.trans (hb3.mono HB.out.size))
      clear hb3
      cases v with
      | false =>
        go_wp2_with fail
        go_ret2
        rw [show ee = 10 by rw [HE.out]; rfl] at HV ⊢
        rw [show vv = 0 by rw [HV.out]; rfl]
        exact ⟨rfl, HB.out⟩
      | true =>
        have u5 : w3.cell? ⟨w.heap.size, 5, none⟩ = some (.string x.t.com) := (HX.out.cell 5).trans c5.out
        have u8 : w3.cell? ⟨w.heap.size, 8, none⟩ = some (.string x.salt) := (HX.out.cell 8).trans c8.out
        have u9 : w3.cell? ⟨w.heap.size, 9, none⟩ = some (.int .u64 x.drawn) := (HX.out.cell 9).trans c9'.out
        go_wp2_with fail
        refine (HOP _).out.mono ?_
        rintro e w4 ⟨rfl, hb4⟩
        replace HX := Lib.hid (HX.out.bel hb4)
        replace HB := Lib.hid (HB.out.trans (hb4.mono HB.out.size))
        clear hb4 u5 u8 u9
        cases o with
        | false =>
          go_wp2_with fail
          go_ret2
          rw [show ee = 4 by rw [HE.out]; rfl] at HV ⊢
          rw [show vv = 0 by rw [HV.out]; rfl]
          exact ⟨rfl, HB.out⟩
        | true =>
          cases b with
          | false =>
            go_wp2_with fail
            go_ret2
            rw [show ee = 13 by rw [HE.out]; rfl] at HV ⊢
            rw [show vv = 0 by rw [HV.out]; rfl]
            exact ⟨rfl, HB.out⟩
          | true =>
            have u2 : w4.cell? ⟨w.heap.size, 2, none⟩ = some (.int .u64 x.t.face) := (HX.out.cell 2).trans c2.out
            go_wp2_with fail
            go_ret2
            rw [show ee = 0 by rw [HE.out]; rfl] at HV ⊢
            rw [show vv = x.t.face by rw [HV.out]; rfl]
            exact ⟨rfl, HB.out⟩
  · have hw' : winsOk x.drawn x.t.wins x.t.many = false := by simpa using hw
    have HWI := fun W => Lib.hid (wins_no x.drawn x.t.cl x.t.wins x.t.many W h9 hw')
    rw [show wonE client x = 1 by unfold wonE; rw [hw']; simp, show wonV client x = 0 by unfold wonV wonE; rw [hw']; simp]
    clear hw hw' hsi HTO h6 h9 hf
    go_enter Tryz.func79, Tryz.ntmps79
    go_wp2_with fail
    refine (HWI _).out.mono ?_
    rintro e w1 ⟨rfl, rfl⟩
    clear c9 c6 c3 c4
    go_wp2_with (first | (refine wpList_load_blk rfl 43 (.tmp 24) rfl _ 0 8 HX.out (Tk.cs x.t) (by rfl) (by rfl) Tryz.underlying43 infoTk' (by show 8 ≤ 10; omega) ?_))
    refine (HM _).out.mono ?_
    rintro e w2 ⟨rfl, hb2⟩
    have HB : Hid (Below w.heap.size w w2) := HA0.out.trans (hb2.mono HA0.out.size)
    clear hb2
    generalize tmayB x.t = d
    cases d <;>
    · go_wp2_with fail
      go_ret2
      exact ⟨rfl, HB.out⟩
end Go.Proofs.YtpbcfeghfcodcaaGreat
namespace Go.Proofs.YtpbcfeghfcodcaaGreat
open Go.RowKit
theorem mulV_nn (a b : Nat) : 0 ≤ mulV a b := by
  unfold mulV
  split
  · exact Int.mul_nonneg (Int.natCast_nonneg _) (Int.natCast_nonneg _)
  · exact Int.le_refl 0
theorem emp_isE : ByteArray.empty.toList.isEmpty = true := by rw [Lib.toList_data]; rfl
structure Tm where
  chan : ByteArray
  client : ByteArray
  anchor : ByteArray
  unit : Nat
  tokens : Nat
def Tm.cs (t : Tm) : Array Value := #[.string t.chan, .string t.client, .string t.anchor, .int .u64 (t.unit : Nat), .int .i64 (t.tokens : Nat)]
structure Tm.ok (t : Tm) : Prop where
  chan : t.chan.size ≤ 4096
  anchor : t.anchor.size = 16
  unit : t.unit < 18446744073709551616
  tokens : t.tokens ≤ 4096
structure Pf where
  am : Nat
  sig : ByteArray
  tok : ByteArray
  A : Option Addr
  l : List Wn
  c : Nat
def Pf.cs (p : Pf) : Array Value := #[.int .u64 (p.am : Nat), .string p.sig, .string p.tok, .slice p.A p.l.length p.c]
def paidB (t : Tm) (p : Pf) : Bool := if 0 < p.am then verB t.client (vouchB t.chan p.am) p.sig else decide (p.sig = ByteArray.empty)
set_option maxRecDepth 100000 in
set_option maxHeartbeats 1000000 in
theorem paid_any (t : Tm) (p : Pf) (w : World) (ht : t.ok) (hs : p.sig.size ≤ 1000000) (ha : p.am < 18446744073709551616) :
    Calls Tryz.prog 41 #[.agg p.cs, .agg t.cs] w fun e w' => e = .returned (.tuple #[.int .u64 (if paidB t p then (p.am : Int) else 0), .int .i64 (if paidB t p then 0 else 10)]) ∧ Below w.heap.size w w' := by
  have HVO := fun W => Lib.hid (voucher_any t.chan p.am W ht.chan ha)
  have hvz : (vouchB t.chan p.am).size ≤ 900000 := by rw [vouchB_size]; have := ht.chan; omega
  have HVE := fun W => Lib.hid (verify_any t.client (vouchB t.chan p.am) p.sig W hs hvz)
  have HX := Lib.hid (Blk.alloc (Blk.new w 33 p.cs) (.cells t.cs 57))
  have HT : Hid (Blk ((w.alloc (.cells p.cs 33)).alloc (.cells t.cs 57)) (w.heap.size + 1) 57 t.cs) := Blk.newAt (by simp)
  have HA0 : Hid (Below w.heap.size w ((w.alloc (.cells p.cs 33)).alloc (.cells t.cs 57))) := ((Below.refl _ _).alloc (Nat.le_refl _) _).alloc (by simp) _
  have c0 : ((w.alloc (.cells p.cs 33)).alloc (.cells t.cs 57)).cell? ⟨w.heap.size, 0, none⟩ = some (.int .u64 p.am) := HX.out.cell 0
  have c1 : ((w.alloc (.cells p.cs 33)).alloc (.cells t.cs 57)).cell? ⟨w.heap.size, 1, none⟩ = some (.string p.sig) := HX.out.cell 1
  have hb := toList_beq p.sig ByteArray.empty
  by_cases h0 : 0 < p.am
  · have d0 : decide ((0 : Int) < (p.am : Int)) = true := decide_eq_true (by omega)
    have hp : paidB t p = verB t.client (vouchB t.chan p.am) p.sig := by unfold paidB; rw [if_pos h0]
    rw [hp]
    generalize verB t.client (vouchB t.chan p.am) p.sig = v at HVE ⊢
    generalize vouchB t.chan p.am = vo at HVO HVE
    have q0 := cell_rg c0
    have q1 := cell_rg c1
    have q2 := cell_rg (show ((w.alloc (.cells p.cs 33)).alloc (.cells t.cs 57)).cell? ⟨w.heap.size + 1, 0, none⟩ = some (.string t.chan) from HT.out.cell 0)
    have q3 := cell_rg (show ((w.alloc (.cells p.cs 33)).alloc (.cells t.cs 57)).cell? ⟨w.heap.size + 1, 1, none⟩ = some (.string t.client) from HT.out.cell 1)
    have HW0 := Lib.hid HX.out.lt
    have d0' : decide (0 < p.am) = true := decide_eq_true h0
    clear hp ht hs hvz
    go_enter Tryz.func41, Tryz.ntmps41
    go_wp2_with fail
    refine wp_region_quiet_below (by kernel_rfl) (by kernel_rfl) ?_
    repeat (first | go_big_quiet_skip | (go_big_quiet_want; first | (fail; go_big_quiet_on) | (go_big_quiet_op; first | go_big_quiet_on | go_big_quiet_call ((first
          | (go_at_call 30; exact Calls.rg fun W _ => (HVO W).out)
          | (go_at_call 66; exact Calls.rg fun W _ => (HVE W).out))))))
    refine wpQuiet_nil ?_
    intro W hp
    have hb := bel_regrown hp
    clear hp
    have u0 : W.cell? ⟨w.heap.size, 0, none⟩ = some (.int .u64 p.am) := Blk.cell (HX.out.bel hb) 0
    have HB := Lib.hid (HA0.out.trans (hb.mono HA0.out.size))
    clear hb q0 q1 q2 q3 c0 c1
    cases v <;>
    · go_wp2_with fail
      go_ret2
      exact ⟨rfl, HB.out⟩
  · have d0 : decide ((0 : Int) < (p.am : Int)) = false := decide_eq_false (by omega)
    have h1 : p.am = 0 := by omega
    have hp : paidB t p = decide (p.sig = ByteArray.empty) := by unfold paidB; rw [if_neg h0]
    rw [hp]
    have H1 := Lib.hid h1
    have d0' : decide (0 < p.am) = false := decide_eq_false h0
    by_cases hv : p.sig = ByteArray.empty
    · rw [decide_eq_true hv]
      have hb3 : p.sig.toList.isEmpty = true := by rw [hv]; exact emp_isE
      clear hp h0 ht hs hvz HVO HVE hb hv h1
      go_enter Tryz.func41, Tryz.ntmps41
      go_wp2_with fail
      go_ret2
      exact ⟨by simp [H1.out], HA0.out⟩
    · rw [decide_eq_false hv] at hb ⊢
      have hb3 : p.sig.toList.isEmpty = false := by
        cases h : p.sig.toList with
        | nil => rw [h] at hb; simp at hb
        | cons _ _ => rfl
      clear hp h0 ht hs hvz HVO HVE hb hv h1
      go_enter Tryz.func41, Tryz.ntmps41
      go_wp2_with fail
      go_ret2
      exact ⟨rfl, HA0.out⟩
/-- the tokens' worth: none, or how far the token leads -/
def TokR (t : Tm) (p : Pf) (w : World) (e : Ending) (w' : World) : Prop := ∃ (v : Nat) (f : Int), e = .returned (.tuple #[.int .u64 (v : Int), .int .i64 f]) ∧ Below w.heap.size w w' ∧
  ((p.tok = ByteArray.empty ∧ v = 0 ∧ f = 0) ∨ (p.tok.size ≠ 16 ∧ p.tok ≠ ByteArray.empty ∧ v = 0 ∧ f = 1) ∨ (p.tok.size = 16 ∧ ∃ n b, CntP t.anchor p.tok t.tokens n b ∧ (v : Int) = (if b then mulV n t.unit else 0) ∧ f = (if b then mulE n t.unit else 4)))
set_option maxRecDepth 100000 in
set_option maxHeartbeats 1000000 in
theorem tokens_any (t : Tm) (p : Pf) (w : World) (ht : t.ok) : Calls Tryz.prog 42 #[.agg p.cs, .agg t.cs] w (TokR t p w) := by
  have HX := Lib.hid (Blk.alloc (Blk.new w 33 p.cs) (.cells t.cs 57))
  have HT : Hid (Blk ((w.alloc (.cells p.cs 33)).alloc (.cells t.cs 57)) (w.heap.size + 1) 57 t.cs) := Blk.newAt (by simp)
  have HA0 : Hid (Below w.heap.size w ((w.alloc (.cells p.cs 33)).alloc (.cells t.cs 57))) := ((Below.refl _ _).alloc (Nat.le_refl _) _).alloc (by simp) _
  have c2 : ((w.alloc (.cells p.cs 33)).alloc (.cells t.cs 57)).cell? ⟨w.heap.size, 2, none⟩ = some (.string p.tok) := HX.out.cell 2
  have e2 : ((w.alloc (.cells p.cs 33)).alloc (.cells t.cs 57)).cell? ⟨w.heap.size + 1, 2, none⟩ = some (.string t.anchor) := HT.out.cell 2
  have e4 : ((w.alloc (.cells p.cs 33)).alloc (.cells t.cs 57)).cell? ⟨w.heap.size + 1, 4, none⟩ = some (.int .i64 t.tokens) := HT.out.cell 4
  have hb := toList_beq p.tok ByteArray.empty
  by_cases h0 : p.tok = ByteArray.empty
  · have hb3 : p.tok.toList.isEmpty = true := by rw [h0]; exact emp_isE
    have H0 := Lib.hid h0
    clear h0 hb ht
    go_enter Tryz.func42, Tryz.ntmps42
    go_wp2_with fail
    go_ret2
    exact ⟨0, 0, rfl, HA0.out, .inl ⟨H0.out, rfl, rfl⟩⟩
  · have hb3 : p.tok.toList.isEmpty = false := by
      rw [decide_eq_false h0] at hb
      cases h : p.tok.toList with
      | nil => rw [h] at hb; simp at hb
      | cons _ _ => rfl
    have H0 := Lib.hid h0
    clear h0 hb
    by_cases h1 : p.tok.size = 16
    · have HCN := fun W => Lib.hid (count_any t.anchor p.tok t.tokens W ht.tokens ht.anchor h1)
      have H1 := Lib.hid h1
      have HU := Lib.hid ht.unit
      have HTK := Lib.hid ht.tokens
      clear h1 ht
      go_enter Tryz.func42, Tryz.ntmps42
      go_wp2_with fail
      refine (HCN _).out.mono ?_
      rintro e w1 ⟨n, b, hp, rfl, hb1⟩
      have HB := Lib.hid (HA0.out.trans (hb1.mono HA0.out.size))
      have HP := Lib.hid hp
      have u3 : w1.cell? ⟨w.heap.size + 1, 3, none⟩ = some (.int .u64 t.unit) := Blk.cell (HT.out.bel hb1) 3
      have hn : n ≤ 4096 := Nat.le_trans hp.1 HTK.out
      clear hb1 hp
      cases b with
      | false =>
        go_wp2_with fail
        go_ret2
        exact ⟨0, 4, rfl, HB.out, .inr (.inr ⟨H1.out, n, false, HP.out, rfl, rfl⟩)⟩
      | true =>
        simp only [if_true]
        obtain ⟨v, hv⟩ : ∃ v : Nat, (v : Int) = mulV n t.unit := ⟨(mulV n t.unit).toNat, Int.toNat_of_nonneg (mulV_nn n t.unit)⟩
        have HPV := fun W => Lib.hid (pvalue_any n t.unit W (by omega) HU.out)
        rw [← hv] at HPV
        have HV := Lib.hid hv
        clear hv
        generalize hme : mulE n t.unit = me at HPV
        have HME : Hid (me = mulE n t.unit) := hme.symm
        clear hme
        go_wp2_with fail
        refine (HPV _).out.mono ?_
        rintro e w2 ⟨rfl, rfl⟩
        go_wp2_with fail
        go_ret2
        exact ⟨v, me, rfl, HB.out, .inr (.inr ⟨H1.out, n, true, HP.out, by rw [if_pos rfl]; exact HV.out, by rw [if_pos rfl]; exact HME.out⟩)⟩
    · have HCN := fun W => Lib.hid (count_bad t.anchor p.tok (t.tokens : Int) W (.inr h1))
      have H1 := Lib.hid h1
      clear h1 ht
      go_enter Tryz.func42, Tryz.ntmps42
      go_wp2_with fail
      refine (HCN _).out.mono ?_
      rintro e w1 ⟨rfl, hb1⟩
      have HB := Lib.hid (HA0.out.trans (hb1.mono HA0.out.size))
      clear hb1
      go_wp2_with fail
      go_ret2
      exact ⟨0, 1, rfl, HB.out, .inr (.inl ⟨H1.out, H0.out, rfl, rfl⟩)⟩
end Go.Proofs.YtpbcfeghfcodcaaGreat
namespace Go.Proofs.YtpbcfeghfcodcaaGreat
open Go.RowKit
def Wn.cl (x : Wn) : List Value := x.cs.toList
def zTk0 : Tk := ⟨ByteArray.empty, 0, 0, 0, 0, ByteArray.empty, 0, ByteArray.empty⟩
def zWn : Wn := ⟨zTk0, ByteArray.empty, 0⟩
theorem infoWn : (Tryz.prog.info? 45).map (·.size) = some 10 := by kernel_rfl
theorem wncs_one (x : Wn) : x.cs.all (·.oneCell') = true := by
  rw [Array.all_eq_true']
  intro v hv
  simp only [Wn.cs, List.mem_toArray, List.mem_cons, List.not_mem_nil, or_false] at hv
  rcases hv with rfl | rfl | rfl | rfl | rfl | rfl | rfl | rfl | rfl | rfl <;> rfl
theorem wncs_over (y x : Wn) : over y.cs 0 x.cs.toList = x.cs := (over_full x.cs.toList y.cs rfl).trans (Array.toArray_toList ..)
/-- one of a list of wins is read -/
theorem wpList_load_wn {ops : Array Oper} {rest : List Oper} {o : Oper} {a : Act} {w : World} {Q : Exit → Act → World → Prop} (hgd : o.guard = none) (x : Operand) (ho : o.op = .load 45 x) (b off : Nat) (hx : a.eval x = .pointer (some ⟨b, off, none⟩)) (y : Wn)
    (hc : ∀ j u, y.cl[j]? = some u → w.cell? ⟨b, off + j, none⟩ = some u) (h : wpList Tryz.prog ops Q rest (a.put o.dst (.agg y.cs)) w) : wpList Tryz.prog ops Q (o :: rest) a w := by
  refine wpList_load_mid (P := Tryz.prog) hgd 45 x ho b off hx y.cl _ hc Tryz.underlying45 rfl (by rw [infoWn]; rfl) ?_
  show wpList Tryz.prog ops Q rest (a.put o.dst (.agg y.cs.toList.toArray)) w
  rw [Array.toArray_toList]
  exact h
theorem bel_st' {V W : World} {o : Obj} (h : Ch [V.heap.size] (V.alloc o) W) : Below V.heap.size V W := ((Below.refl _ _).alloc (Nat.le_refl _) _).trans (h.below (by simp) (by simp))
def wmayB (x : Wn) : Bool := tmayB x.t && decide (x.salt.size ≤ 32)
def rightB (p : Pf) : Bool := p.l.all wmayB && decide (p.sig.size ≤ 400) && (decide (p.tok = ByteArray.empty) || decide (p.tok.size = 16)) && decide (p.l.length ≤ 3)
set_option maxRecDepth 100000 in
set_option maxHeartbeats 1000000 in
theorem right_any (p : Pf) (w : World) (hl : p.l.length ≤ 1000000) (hS : Sl w w.heap.size 10 Wn.cl p.A p.l) :
    Calls Tryz.prog 19 #[.agg p.cs] w fun e w' => e = .returned (.bool (rightB p)) ∧ Below w.heap.size w w' := by
  have HS := Lib.hid hS
  have HX := Lib.hid (Blk.new w 33 p.cs)
  have HA0 : Hid (Below w.heap.size w (w.alloc (.cells p.cs 33))) := (Below.refl _ _).alloc (Nat.le_refl _) _
  have hzx : w.heap.size < (w.alloc (.cells p.cs 33)).heap.size := HX.out.lt
  have c3 : (w.alloc (.cells p.cs 33)).cell? ⟨w.heap.size, 3, none⟩ = some (.slice p.A p.l.length p.c) := HX.out.cell 3
  have HXX : Hid (∀ W, Below (w.alloc (.cells p.cs 33)).heap.size (w.alloc (.cells p.cs 33)) W → Blk W w.heap.size 33 p.cs ∧ Below w.heap.size w W) := fun W hW => ⟨HX.out.bel hW, HA0.out.trans (hW.mono (by simp))⟩
  obtain ⟨A, hA⟩ : ∃ A, A = p.A := ⟨_, rfl⟩
  rw [← hA] at c3 HS
  have HA := Lib.hid hA
  clear hS hA
  go_enter Tryz.func19, Tryz.ntmps19
  go_wp2_with fail
  go_loopw [8] (fun i wr => ∃ k : Nat, k ≤ p.l.length ∧ i = .int .i64 k ∧ Hid ((p.l.take k).all wmayB = true) ∧ Hid (Below (w.alloc (.cells p.cs 33)).heap.size (w.alloc (.cells p.cs 33)) wr)) (fun i _ => p.l.length - (intOf i).toNat)
  case atStart => exact ⟨0, Nat.zero_le _, rfl, Lib.hid rfl, Below.refl _ _⟩
  case round =>
    obtain ⟨k, hk, rfl, HT, HB⟩ := hrel
    obtain ⟨hXr, hBw⟩ := HXX.out _ HB.out
    have HXr := Lib.hid hXr
    have HBw := Lib.hid hBw
    clear hXr hBw c3
    by_cases hlt : k < p.l.length
    · obtain ⟨ab, off, rfl, hbB, hc⟩ := (HS.out.below HBw.out).at_ hlt
      have HTS : Hid ((p.l.take (k + 1)).all wmayB = ((p.l.take k).all wmayB && wmayB p.l[k])) := by
        show _ = _
        rw [List.take_succ_eq_append_getElem hlt, List.all_append]
        simp
      have HBAD : Hid (wmayB p.l[k] = false → rightB p = false) := fun hbad => by
        unfold rightB
        have : p.l.all wmayB = false := by
          rw [List.all_eq_false]
          exact ⟨p.l[k], List.getElem_mem hlt, by rw [hbad]; simp⟩
        rw [this]; rfl
      generalize p.l[k] = x at hc HTS HBAD
      have HCC := Lib.hid hc
      have HM := fun W => Lib.hid (tmay_any x.t W)
      clear hc
      go_wp2_with (first
        | (refine wpList_load_wn rfl (.tmp 10) rfl ab (off + k * 10) (by rfl) x HCC.out ?_)
        | (refine wpList_store_part rfl 45 (.tmp 4) (.tmp 11) rfl wr.heap.size 0 (cs := zWn.cs) (Blk.new _ _ _) x.cs x.cs (by rfl) (by rfl) (Nat.le_refl 10) infoWn (wncs_one x) (wncs_over zWn x) ?_; intro W1 hb1 hc1; have HG := Lib.hid hb1; have hb := Lib.hid (bel_st' hc1); clear hb1 hc1)
        | (refine wpList_load_blk rfl 43 (.tmp 12) rfl wr.heap.size 0 8 HG.out (Tk.cs x.t) (by rfl) (by rfl) Tryz.underlying43 infoTk' (by show 8 ≤ 10; omega) ?_))
      refine (HM _).out.mono ?_
      rintro e W2 ⟨rfl, hb2⟩
      have HG2 := Lib.hid (HG.out.bel hb2)
      have HB2 := Lib.hid ((HB.out.trans (hb.out.mono HB.out.size)).trans (hb2.mono (Nat.le_trans HB.out.size hb.out.size)))
      have u8 : W2.cell? ⟨wr.heap.size, 8, none⟩ = some (.string x.salt) := HG2.out.cell 8
      have HWM : Hid (wmayB x = (tmayB x.t && decide (x.salt.size ≤ 32))) := rfl
      clear hb2 hb HG HCC
      generalize tmayB x.t = tm at HWM ⊢
      cases tm with
      | false =>
        go_wp2_with fail
        go_ret
        refine ⟨?_, (HXX.out _ HB2.out).2⟩
        have hf := HBAD.out (by rw [HWM.out]; rfl)
        rw [hf]
        rfl
      | true =>
        by_cases h32 : x.salt.size ≤ 32
        · have d32 : decide ((32 : Int) < (x.salt.size : Int)) = false := decide_eq_false (by omega)
          have H32 := Lib.hid h32
          clear h32
          go_wp2_with fail
          go_roundw
          case rel => exact ⟨k + 1, by omega, by go_num, Lib.hid (by rw [HTS.out, HT.out, HWM.out, decide_eq_true H32.out]; rfl), HB2⟩
          case measure => simp [intOf]; omega
        · have d32 : decide ((32 : Int) < (x.salt.size : Int)) = true := decide_eq_true (by omega)
          have H32 := Lib.hid h32
          clear h32
          go_wp2_with fail
          go_ret
          refine ⟨?_, (HXX.out _ HB2.out).2⟩
          have hf := HBAD.out (by rw [HWM.out, decide_eq_false H32.out]; rfl)
          rw [hf]
          rfl
    · have hkl : k = p.l.length := by omega
      subst hkl
      have HALL : Hid (p.l.all wmayB = true) := by have := HT.out; rwa [List.take_length] at this
      have v1 : wr.cell? ⟨w.heap.size, 1, none⟩ = some (.string p.sig) := HXr.out.cell 1
      have v2 : wr.cell? ⟨w.heap.size, 2, none⟩ = some (.string p.tok) := HXr.out.cell 2
      have v3 : wr.cell? ⟨w.heap.size, 3, none⟩ = some (.slice A p.l.length p.c) := by rw [HA.out]; exact HXr.out.cell 3
      have HRB : Hid (rightB p = (decide (p.sig.size ≤ 400) && (decide (p.tok = ByteArray.empty) || decide (p.tok.size = 16)) && decide (p.l.length ≤ 3))) := by
        show _ = _
        unfold rightB
        rw [HALL.out]; simp
      have e1 : decide ((p.sig.size : Int) ≤ 400) = decide (p.sig.size ≤ 400) := by rw [decide_eq_decide]; omega
      have e2 : p.tok.toList.isEmpty = decide (p.tok = ByteArray.empty) := by
        rw [← toList_beq]; cases h : p.tok.toList <;> simp
      have e3 : ((p.tok.size : Int) == 16) = decide (p.tok.size = 16) := by
        by_cases h : p.tok.size = 16
        · rw [decide_eq_true h, h]; rfl
        · rw [decide_eq_false h]; exact beq_eq_false_iff_ne.2 (by omega)
      have e4 : decide ((p.l.length : Int) ≤ 3) = decide (p.l.length ≤ 3) := by rw [decide_eq_decide]; omega
      generalize decide (p.sig.size ≤ 400) = b1 at e1 HRB
      generalize decide (p.tok = ByteArray.empty) = b2 at e2 HRB
      generalize decide (p.tok.size = 16) = b3 at e3 HRB
      generalize decide (p.l.length ≤ 3) = b4 at e4 HRB
      clear hlt hk
      cases b1 <;> cases b2 <;> cases b3 <;> cases b4 <;>
      · go_wp2_with fail
        go_ret
        exact ⟨by rw [HRB.out]; rfl, HBw.out⟩
end Go.Proofs.YtpbcfeghfcodcaaGreat
