/- draw.Nominal of any numbers. channel.Ticket, of any state. channel.Ticket, of any state: a ticket that won. channel.Ticket, of any state. channel.More, of any state. channel.More, of any state: the walk, up to its tests. channel.New, Close, of any output and state. slices.Equal, note.Same, channel.Same of what is alike. channel.Same of states that are alike. law09's CutOut, law17's cut, law08's cutTicket and cutWin, of anything. law08's cutTicket, cutWin, of anything. law08's cutWin; law17's cut, of anything. law17's cut, of anything. law17: play, of any state and call. -/
import Derived.Outline
import Derived.Deep.RegionHeld3
import Derived.Deep.DeepCutAuto
import Derived.Deep.CutBlock
import Derived.Deep.AppendLies
import Derived.Test.YtdoebmikjgmnaaaGreatMgG03
import Derived.Test.YtdoebmikjgmnaaaGreatMgG12
import Derived.Test.YtdoebmikjgmnaaaGreatMgG23
import Derived.Test.YtdoebmikjgmnaaaGreatMgG26
set_option linter.unusedVariables false
set_option linter.unusedSimpArgs false
namespace Go.Proofs.YtdoebmikjgmnaaaGreat
open Go.RowKit
def nomE (f n m : Nat) : Int := if mayN m && decide (n ≤ m) then (if f * n % m = 0 then 0 else 4) else 1
def nomV (f n m : Nat) : Nat := if nomE f n m = 0 then f * n / m else 0
theorem mayN_bd {m : Nat} (h : mayN m = true) : 1 ≤ m ∧ m ≤ 4294967296 := of_decide_eq_true h
theorem nomV_lt (f n m : Nat) (hf : f < 18446744073709551616) : nomV f n m < 18446744073709551616 := by
  unfold nomV nomE
  by_cases h : (mayN m && decide (n ≤ m)) = true
  · rw [if_pos h]
    have h' := h
    simp only [Bool.and_eq_true, decide_eq_true_eq] at h'
    have hb := mayN_bd h'.1
    have hle : f * n / m ≤ f := by
      refine Nat.div_le_of_le_mul ?_
      rw [Nat.mul_comm]
      exact Nat.mul_le_mul_right f h'.2
    by_cases h2 : f * n % m = 0
    · rw [if_pos h2, if_pos rfl]; omega
    · rw [if_neg h2, if_neg (by omega)]; omega
  · rw [if_neg h, if_neg (by omega)]; omega
end Go.Proofs.YtdoebmikjgmnaaaGreat
namespace Go.Proofs.YtdoebmikjgmnaaaGreat
open Go.RowKit Go.Maps
theorem capA_bd {a b : Int} (ha : 0 ≤ a) (hb : 0 ≤ b) : 0 ≤ capA a b ∧ capA a b < 18446744073709551616 := by
  unfold capA capN plusV plusE
  by_cases h : a + b < 18446744073709551616
  · rw [if_pos h, if_pos h, if_pos rfl]; omega
  · rw [if_neg h, if_neg h, if_neg (by omega)]; omega
theorem capA_nat (a b : Nat) : (((capA a b).toNat : Nat) : Int) = capA a b := by
  have := capA_bd (a := a) (b := b) (by omega) (by omega)
  omega
theorem capA_toNat_lt (a b : Nat) : (capA a b).toNat < 18446744073709551616 := by
  have := capA_bd (a := a) (b := b) (by omega) (by omega)
  omega
def St.addw (s : St) (x : Wn) : St := { s with wins := s.wins ++ [x], faces := (capA s.faces x.t.face).toNat }
def St.nom (s : St) (v : Nat) : St := { s with nominal := (capA s.nominal v).toNat }
/-- .. with another nominal -/
def St.nomN (s : St) (n : Nat) : St := { s with nominal := n }
/-- with a won ticket, its row somewhere -/
def St.wonS (s : St) (x : Wn) (B : Option Addr) (d : Nat) (f n : Nat) : St := { s with wins := s.wins ++ [x], B := B, d := d, faces := f, nominal := n }
theorem won_room (s : St) (x : Wn) (B : Option Addr) (d : Nat) (B' : Option Addr) (d' f n r : Nat) : xroomB (s.wonS x B d f n) r = xroomB (s.wonS x B' d' f n) r := rfl
theorem won_fit {s : St} (h : s.fit) (x : Wn) (B : Option Addr) (d : Nat) {f n : Nat} (h1 : f < 18446744073709551616) (h2 : n < 18446744073709551616) (hw : s.wins.length ≤ 900) : (s.wonS x B d f n).fit :=
  ⟨h.lam, h.lunit, h.am, h.tokens, h1, h2, h.tams, h.tops, by show (s.wins ++ [x]).length ≤ 1000; rw [List.length_append]; show s.wins.length + 1 ≤ 1000; omega, h.tx⟩
theorem won_set15 (s : St) (x : Wn) (g d : Nat) : s.cs.setIfInBounds 15 (.slice (some ⟨g, 0, none⟩) (s.wins.length + 1) d) = (s.wonS x (some ⟨g, 0, none⟩) d s.faces s.nominal).cs := by
  show _ = St.cs { s with wins := s.wins ++ [x], B := some ⟨g, 0, none⟩, d := d }
  unfold St.cs
  simp only [List.length_append, List.length_cons, List.length_nil, Nat.zero_add]
  rfl
theorem won_set17 (s : St) (x : Wn) (B : Option Addr) (d f n f' : Nat) : (s.wonS x B d f n).cs.setIfInBounds 17 (.int .u64 (f' : Int)) = (s.wonS x B d f' n).cs := rfl
theorem won_set18 (s : St) (x : Wn) (B : Option Addr) (d f n n' : Nat) : (s.wonS x B d f n).cs.setIfInBounds 18 (.int .u64 (n' : Int)) = (s.wonS x B d f n').cs := rfl
theorem won_mem {s : St} {w : World} {base : Nat} {g d f n : Nat} (x : Wn) (h : s.mem w) (ho : w.ownsRow base 180 10 (.slice (some ⟨g, 0, none⟩) (s.wins.length + 1) d) (s.wins.length + 1) (s.wins.flatMap Wn.cl ++ x.cl)) : (s.wonS x (some ⟨g, 0, none⟩) d f n).mem w := by
  have hl : (s.wins ++ [x]).length = s.wins.length + 1 := by simp
  have hf : (s.wins ++ [x]).flatMap Wn.cl = s.wins.flatMap Wn.cl ++ x.cl := by simp
  refine ⟨h.tops, Sl.of_own (base := base) (n := s.wins.length + 1) (c := d) (e := 180) wncl_len (by rw [show (s.wonS x (some ⟨g, 0, none⟩) d f n).wins = s.wins ++ [x] from rfl, hl, hf]; exact ho), h.topsN, fun e => by cases e⟩
theorem LsAt.won {s : St} {x : Wn} {B B' : Option Addr} {d d' f n N : Nat} {w : World} {A2 B2 : Option Addr} {c2 d2 : Nat} (h : LsAt (s.wonS x B d f n) N w A2 c2 B2 d2) : LsAt (s.wonS x B' d' f n) N w A2 c2 B2 d2 := ⟨h.r1, h.r2, h.n1, h.n2⟩
theorem won_cell15 (s : St) (x : Wn) (B : Option Addr) (d f n : Nat) : (s.wonS x B d f n).cs[15]? = some (.slice B (s.wins.length + 1) d) := by
  show some (Value.slice B (s.wins ++ [x]).length d) = _
  rw [List.length_append]; rfl
def ticV (x : Wn) : Nat := nomV x.t.face x.t.wins x.t.many
def ticB (x : Wn) : Bool := winsB x.drawn x.t.cl x.t.wins x.t.many
def tickS (s : St) (x : Wn) : St := if ticB x then (s.addw x).nom (ticV x) else s.nom (ticV x)
def ticE (s : St) (x : Wn) (r : Nat) : Int :=
  if s.closed then 8
  else if nomE x.t.face x.t.wins x.t.many ≠ 0 then nomE x.t.face x.t.wins x.t.many
  else if winsOk x.drawn x.t.wins x.t.many = false then 1
  else if ticB x then
    (if winE s x ≠ 0 then winE s x else if ((s.addw x).nom (ticV x)).nominal = 18446744073709551615 then 9 else if 3 < s.wins.length + 1 then 9 else if xroomB ((s.addw x).nom (ticV x)) r then 0 else 9)
  else (if (s.nom (ticV x)).nominal = 18446744073709551615 then 9 else 0)
theorem St.fit.with_ {s : St} (h : s.fit) (f n : Nat) (l : List Wn) (h1 : f < 18446744073709551616) (h2 : n < 18446744073709551616) (h3 : l.length ≤ 1000) : St.fit ⟨s.lock, s.A, s.tops, s.c, s.am, s.sig, s.tok, s.B, l, s.d, s.tokens, f, n, s.closed⟩ := ⟨h.lam, h.lunit, h.am, h.tokens, h1, h2, h.tams, h.tops, h3, h.tx⟩
theorem St.mem.with_ {s : St} {w : World} (h : s.mem w) (f n : Nat) : St.mem ⟨s.lock, s.A, s.tops, s.c, s.am, s.sig, s.tok, s.B, s.wins, s.d, s.tokens, f, n, s.closed⟩ w := ⟨h.tops, h.wins, h.topsN, h.winsN⟩
theorem St.fit.addw {s : St} (h : s.fit) (x : Wn) (hw : s.wins.length ≤ 900) : (s.addw x).fit := h.with_ _ _ _ (capA_toNat_lt _ _) h.nominal (by rw [List.length_append]; show s.wins.length + 1 ≤ 1000; omega)
theorem St.fit.nom {s : St} (h : s.fit) (v : Nat) : (s.nom v).fit := h.with_ _ _ _ h.faces (capA_toNat_lt _ _) h.wins
theorem St.mem.nom {s : St} {w : World} (h : s.mem w) (v : Nat) : (s.nom v).mem w := h.with_ _ _
/-- with a won ticket, its row somewhere -/
def St.addB (s : St) (x : Wn) (B : Option Addr) (d : Nat) (f : Nat) : St := { s with wins := s.wins ++ [x], B := B, d := d, faces := f }
theorem st_addB15 (s : St) (x : Wn) (g d : Nat) : s.cs.setIfInBounds 15 (.slice (some ⟨g, 0, none⟩) (s.wins.length + 1) d) = (s.addB x (some ⟨g, 0, none⟩) d s.faces).cs := by
  show _ = St.cs { s with wins := s.wins ++ [x], B := some ⟨g, 0, none⟩, d := d }
  unfold St.cs
  simp only [List.length_append, List.length_cons, List.length_nil, Nat.zero_add]
  rfl
theorem st_set17 (s : St) (f : Nat) : s.cs.setIfInBounds 17 (.int .u64 (f : Int)) = St.cs { s with faces := f } := rfl
theorem st_set18 (s : St) (f : Nat) : s.cs.setIfInBounds 18 (.int .u64 (f : Int)) = St.cs { s with nominal := f } := rfl
end Go.Proofs.YtdoebmikjgmnaaaGreat
namespace Go.Proofs.YtdoebmikjgmnaaaGreat
open Go.RowKit Go.Maps
end Go.Proofs.YtdoebmikjgmnaaaGreat
namespace Go.Proofs.YtdoebmikjgmnaaaGreat
open Go.RowKit Go.Maps
end Go.Proofs.YtdoebmikjgmnaaaGreat
namespace Go.Proofs.YtdoebmikjgmnaaaGreat
open Go.RowKit Go.Maps
def sameP (a b : En) : Bool := decide (a.tx = b.tx) && decide (a.out = b.out)
def mustB (s : St) (e : En) (fb : Bool) : Bool := decide (e.o.kind = 3) && fb && decide (e.o.of_ = s.name) && decide (e.o.key = s.lock.o.key) && decide (e.o.gate = s.lock.o.gate) && decide (e.o.ex = s.lock.o.ex)
def moreE (s : St) (e : En) (fb : Bool) : Int :=
  if s.closed then 8 else if mustB s e fb = false then 13 else if sameP s.lock e || s.tops.any (fun y => sameP y e) then 7 else if 3 ≤ s.tops.length then 9 else 0
def St.addtop (s : St) (e : En) : St := { s with tops := s.tops ++ [e] }



end Go.Proofs.YtdoebmikjgmnaaaGreat
namespace Go.Proofs.YtdoebmikjgmnaaaGreat
open Go.RowKit Go.Maps
theorem own_keptT {w w' : World} {base base' n n' size size' : Nat} {e e' : TypeId} {v v' : Value} {xs xs' : List Value} (h : w.ownsRow base e size v n xs) (h' : w.ownsRow base' e' size' v' n' xs') (hne : e ≠ e') (hg : w.grownBy w' v'.ownBlock) : w'.ownsRow base e size v n xs := by
  refine h.kept hg ?_
  cases hv : v.ownBlock with
  | none => exact .inl rfl
  | some g =>
    refine .inr fun hq => ?_
    obtain ⟨c, fz, h1⟩ := Lib.ownsRow_kind h g hv
    obtain ⟨c', fz', h2⟩ := Lib.ownsRow_kind h' g hq.symm
    rw [h1] at h2
    injection h2 with h2
    injection h2 with _ h2
    exact hne h2
theorem top_set11 (s : St) (e : En) (A2 : Option Addr) (c2 : Nat) (A5 : Option Addr) (c5 : Nat) (B : Option Addr) (d : Nat) : (s.lists A2 c2 B d).cs.setIfInBounds 11 (.slice A5 (s.tops.length + 1) c5) = ((s.addtop e).lists A5 c5 B d).cs := by
  show _ = St.cs { s with tops := s.tops ++ [e], A := A5, c := c5, B := B, d := d }
  unfold St.cs
  simp only [List.length_append, List.length_cons, List.length_nil, Nat.zero_add]
  rfl
theorem top_ls {s : St} {e : En} {N : Nat} {w : World} {A : Option Addr} {c : Nat} {B : Option Addr} {d : Nat} (h1 : w.ownsRow N 43 11 (.slice A (s.tops.length + 1) c) (s.tops.length + 1) (s.tops.flatMap En.cl ++ e.cl)) (h2 : w.ownsRow N 180 10 (.slice B s.wins.length d) s.wins.length (s.wins.flatMap Wn.cl)) (hn : B = none → d = 0) : LsAt (s.addtop e) N w A c B d := by
  have hl : (s.tops ++ [e]).length = s.tops.length + 1 := by simp
  have hf : (s.tops ++ [e]).flatMap En.cl = s.tops.flatMap En.cl ++ e.cl := by simp
  refine ⟨?_, h2, fun hA => ?_, hn⟩
  · show w.ownsRow N 43 11 (.slice A (s.tops ++ [e]).length c) (s.tops ++ [e]).length ((s.tops ++ [e]).flatMap En.cl)
    rw [hl, hf]; exact h1
  · subst hA; exact own_noneC h1
theorem zOuS : zOu.cs.size = 9 := rfl
theorem ou_over (o : Ou) {cs : Array Value} (h : cs.size = 9) : over cs 0 o.cs.toList = o.cs := (over_full o.cs.toList cs (by rw [h]; rfl)).trans (Array.toArray_toList ..)
theorem infoOuC : (Tryz.prog.info? 41).map (·.size) = some 9 := by kernel_rfl
theorem en_part (e : En) : e.cs.extract 2 (2 + 9) = e.o.cs := by rfl
theorem st_part (s : St) : s.cs.extract 2 (2 + 9) = s.lock.o.cs := by rfl
theorem st_lock (s : St) : s.cs.extract 0 (0 + 11) = s.lock.cs := by rfl
end Go.Proofs.YtdoebmikjgmnaaaGreat
namespace Go.Proofs.YtdoebmikjgmnaaaGreat
open Go.RowKit Go.Maps
def newS (e : En) : St := ⟨e, none, [], 0, 0, ByteArray.empty, ByteArray.empty, none, [], 0, 0, 0, 0, false⟩
def newB (e : En) (fb : Bool) : Bool := decide (e.o.kind = 2) && fb
theorem newS_mem (e : En) (w : World) : (newS e).mem w := ⟨Sl.nil _ _ _ _ _, Sl.nil _ _ _ _ _, fun _ => rfl, fun _ => rfl⟩
def St.shut (s : St) : St := { s with closed := true }
theorem shut_set (s : St) (A : Option Addr) (c : Nat) (B : Option Addr) (d : Nat) : (s.lists A c B d).cs.setIfInBounds 19 (.bool true) = (s.shut.lists A c B d).cs := rfl
end Go.Proofs.YtdoebmikjgmnaaaGreat
namespace Go.Proofs.YtdoebmikjgmnaaaGreat
open Go.RowKit Go.Maps
def Pf.at_ (p : Pf) (A : Option Addr) (c : Nat) : Pf := { p with A := A, c := c }
set_option maxRecDepth 100000 in
set_option maxHeartbeats 2000000 in
theorem nsame_any (p : Pf) (A' : Option Addr) (c' : Nat) (w : World) (h : Sl w w.heap.size 10 Wn.cl p.A p.l) (h' : Sl w w.heap.size 10 Wn.cl A' p.l) (hl : p.l.length ≤ 1000000) :
    Calls Tryz.prog 87 #[.agg p.cs, .agg (p.at_ A' c').cs] w fun e w' => e = .returned (.bool true) ∧ Below w.heap.size w w' := by
  have HS := Lib.hid h
  have HS' := Lib.hid h'
  have HX := Lib.hid (Blk.alloc (Blk.new w 51 p.cs) (.cells (p.at_ A' c').cs 51))
  have HY : Hid (Blk ((w.alloc (.cells p.cs 51)).alloc (.cells (p.at_ A' c').cs 51)) (w.heap.size + 1) 51 (p.at_ A' c').cs) := Blk.newAt (by simp)
  have HB0 : Hid (Below w.heap.size w ((w.alloc (.cells p.cs 51)).alloc (.cells (p.at_ A' c').cs 51))) := ((Below.refl _ _).alloc (Nat.le_refl _) _).alloc (by simp) _
  have c0 : ((w.alloc (.cells p.cs 51)).alloc (.cells (p.at_ A' c').cs 51)).cell? ⟨w.heap.size, 0, none⟩ = some (.int .u64 p.am) := HX.out.cell 0
  have c1 : ((w.alloc (.cells p.cs 51)).alloc (.cells (p.at_ A' c').cs 51)).cell? ⟨w.heap.size, 1, none⟩ = some (.string p.sig) := HX.out.cell 1
  have c2 : ((w.alloc (.cells p.cs 51)).alloc (.cells (p.at_ A' c').cs 51)).cell? ⟨w.heap.size, 2, none⟩ = some (.string p.tok) := HX.out.cell 2
  have c3 : ((w.alloc (.cells p.cs 51)).alloc (.cells (p.at_ A' c').cs 51)).cell? ⟨w.heap.size, 3, none⟩ = some (.slice p.A p.l.length p.c) := HX.out.cell 3
  have e0 : ((w.alloc (.cells p.cs 51)).alloc (.cells (p.at_ A' c').cs 51)).cell? ⟨w.heap.size + 1, 0, none⟩ = some (.int .u64 p.am) := HY.out.cell 0
  have e1 : ((w.alloc (.cells p.cs 51)).alloc (.cells (p.at_ A' c').cs 51)).cell? ⟨w.heap.size + 1, 1, none⟩ = some (.string p.sig) := HY.out.cell 1
  have e2 : ((w.alloc (.cells p.cs 51)).alloc (.cells (p.at_ A' c').cs 51)).cell? ⟨w.heap.size + 1, 2, none⟩ = some (.string p.tok) := HY.out.cell 2
  have e3 : ((w.alloc (.cells p.cs 51)).alloc (.cells (p.at_ A' c').cs 51)).cell? ⟨w.heap.size + 1, 3, none⟩ = some (.slice A' p.l.length c') := HY.out.cell 3
  obtain ⟨A, hA⟩ : ∃ A, A = p.A := ⟨_, rfl⟩
  rw [← hA] at c3 HS
  have HA := Lib.hid hA
  clear h h' hA
  go_enter Tryz.func87, Tryz.ntmps87
  go_wp2_with fail
  go_loopw [37] (fun i wr => ∃ k : Nat, k ≤ p.l.length ∧ i = .int .i64 k ∧ Hid (Below w.heap.size w wr) ∧ Hid (Blk wr w.heap.size 51 p.cs) ∧ Hid (Blk wr (w.heap.size + 1) 51 (p.at_ A' c').cs)) (fun i _ => p.l.length - (intOf i).toNat)
  case atStart => exact ⟨0, Nat.zero_le _, rfl, HB0, HX, HY⟩
  case round =>
    clear c0 c1 c2 c3 e0 e1 e2 e3 HX HY HB0
    obtain ⟨k, hk, rfl, HB, HX, HY⟩ := hrel
    have hz := HB.out.size
    by_cases hlt : k < p.l.length
    · obtain ⟨ab, off, hAe, _, hc⟩ := (HS.out.below HB.out).at_ hlt
      obtain ⟨ab2, off2, rfl, _, hc2⟩ := (HS'.out.below HB.out).at_ hlt
      generalize p.l[k] = x at hc hc2
      have HC1 := Lib.hid hc
      have HC2 := Lib.hid hc2
      have q3 := cell_rg (show wr.cell? ⟨w.heap.size, 3, none⟩ = some (.slice (some ⟨ab, off, none⟩) p.l.length p.c) from (HX.out.cell 3).trans (by rw [← hAe, HA.out]; rfl))
      have r3 := cell_rg (show wr.cell? ⟨w.heap.size + 1, 3, none⟩ = some (.slice (some ⟨ab2, off2, none⟩) p.l.length c') from HY.out.cell 3)
      have HAE := Lib.hid hAe
      have hx1 := HX.out.lt
      have hy1 := HY.out.lt
      clear hc hc2 hAe
      go_upto_region 6 with fail
      refine wp_region_quiet_below (by kernel_rfl) (by kernel_rfl) ?_
      repeat (first | go_big_quiet_skip | (go_big_quiet_want; first | ((first
              | (refine quiet_load_row 180 (.tmp 43) rfl ab (off + k * 10) x.cl HC1.out #[.string x.t.ch, .int .u64 (x.t.ser : Nat), .int .u64 (x.t.face : Nat), .int .u64 (x.t.wins : Nat), .int .u64 (x.t.many : Nat), .string x.t.com, .int .u64 (x.t.cl : Nat), .string x.t.sig, .string x.salt, .int .u64 (x.drawn : Nat)] (by rfl) (by rfl) Tryz.underlying180 infoWn ?_; go_simp)
              | (refine quiet_load_row 180 (.tmp 48) rfl ab2 (off2 + k * 10) x.cl HC2.out #[.string x.t.ch, .int .u64 (x.t.ser : Nat), .int .u64 (x.t.face : Nat), .int .u64 (x.t.wins : Nat), .int .u64 (x.t.many : Nat), .string x.t.com, .int .u64 (x.t.cl : Nat), .string x.t.sig, .string x.salt, .int .u64 (x.drawn : Nat)] (by rfl) (by rfl) Tryz.underlying180 infoWn ?_; go_simp)); go_big_quiet_on) | (go_big_quiet_op; first | go_big_quiet_on | go_big_quiet_call (fail))))
      refine wpQuiet_nil ?_
      intro U hp
      have hb := bel_regrown hp
      clear hp
      have HB1 := Lib.hid (HB.out.trans (hb.mono hz))
      have HX1 := Lib.hid (HX.out.bel hb)
      have HY1 := Lib.hid (HY.out.bel hb)
      clear hb q3 r3
      go_wp2_with fail
      go_roundw
      case rel => exact ⟨k + 1, by omega, by go_num, HB1, HX1, HY1⟩
      case measure => simp [intOf]; omega
    · go_wp2_with fail
      go_ret
      exact ⟨rfl, HB.out⟩
end Go.Proofs.YtdoebmikjgmnaaaGreat
namespace Go.Proofs.YtdoebmikjgmnaaaGreat
open Go.RowKit Go.Maps
def St.pf (s : St) (B : Option Addr) (d : Nat) : Pf := ⟨s.am, s.sig, s.tok, B, s.wins, d⟩
theorem st_pf (s : St) (A : Option Addr) (c : Nat) (B : Option Addr) (d : Nat) : (s.lists A c B d).cs.extract 12 (12 + 4) = (s.pf B d).cs := by rfl
theorem st_pfat (s : St) (B : Option Addr) (d : Nat) (B' : Option Addr) (d' : Nat) : (s.pf B d).at_ B' d' = s.pf B' d' := rfl
end Go.Proofs.YtdoebmikjgmnaaaGreat
namespace Go.Proofs.YtdoebmikjgmnaaaGreat
open Go.RowKit Go.Maps
def cutN (s : ByteArray) (n : Nat) : Nat := if n < s.size then n else s.size
def cutT (s : ByteArray) (n : Nat) : ByteArray := s.extract 0 (cutN s n)
theorem cutN_le (s : ByteArray) (n : Nat) : cutN s n ≤ s.size ∧ cutN s n ≤ n := by unfold cutN; split <;> omega
theorem cutT_size (s : ByteArray) (n : Nat) : (cutT s n).size = cutN s n := by
  have := cutN_le s n
  unfold cutT
  rw [ByteArray.size_extract]; omega
theorem cutN_if (s : ByteArray) (n : Nat) : (if (n : Int) < (s.size : Int) then (n : Int) else (s.size : Int)) = (cutN s n : Int) := by
  unfold cutN
  by_cases h : n < s.size
  · rw [if_pos h, if_pos (by omega)]
  · rw [if_neg h, if_neg (by omega)]
theorem cutN_if40 (s : ByteArray) : (if (40 : Int) < (s.size : Int) then (40 : Int) else (s.size : Int)) = (cutN s 40 : Int) := cutN_if s 40
theorem cutN_if450 (s : ByteArray) : (if (450 : Int) < (s.size : Int) then (450 : Int) else (s.size : Int)) = (cutN s 450 : Int) := cutN_if s 450
def cutO (o : Ou) : Ou := { o with key := cutT o.key 40, gate := cutT o.gate 40, anchor := cutT o.anchor 40, of_ := cutT o.of_ 40 }
theorem zOu_size : zOu.cs.size = 9 := rfl
set_option maxRecDepth 100000 in
set_option maxHeartbeats 1000000 in
theorem cutout_any (o : Ou) (w : World) : Calls Tryz.prog 55 #[.agg o.cs] w fun e w' => e = .returned (.agg (cutO o).cs) ∧ Below w.heap.size w w' := by
  have HX : Hid (Blk ((w.alloc (.cells o.cs 41)).alloc (.cells zOu.cs 41)) w.heap.size 41 o.cs) := Lib.hid ((Blk.new _ _ _).alloc _)
  have HR : Hid (Blk ((w.alloc (.cells o.cs 41)).alloc (.cells zOu.cs 41)) (w.heap.size + 1) 41 zOu.cs) := Blk.newAt (by simp)
  have HB : Hid (Below w.heap.size w ((w.alloc (.cells o.cs 41)).alloc (.cells zOu.cs 41))) := ((Below.refl _ _).alloc (Nat.le_refl _) _).alloc (by simp) _
  go_enter Tryz.func55, Tryz.ntmps55
  go_upto_region 1 with fail
  refine wp_gen fun X hX => ?_
  replace HX : Hid (Blk X w.heap.size 41 o.cs) := Lib.hid (by rw [hX]; exact HX.out)
  replace HR : Hid (Blk X (w.heap.size + 1) 41 zOu.cs) := Lib.hid (by rw [hX]; exact HR.out)
  replace HB : Hid (Below w.heap.size w X) := Lib.hid (by rw [hX]; exact HB.out)
  clear hX
  have c2 : X.cell? ⟨w.heap.size, 2, none⟩ = some (.string o.key) := HX.out.cell 2
  have c3 : X.cell? ⟨w.heap.size, 3, none⟩ = some (.string o.gate) := HX.out.cell 3
  have c5 : X.cell? ⟨w.heap.size, 5, none⟩ = some (.string o.anchor) := HX.out.cell 5
  have c8 : X.cell? ⟨w.heap.size, 8, none⟩ = some (.string o.of_) := HX.out.cell 8
  have z2 : X.frozen? ⟨w.heap.size, 2, none⟩ = false := HX.out.frozen 2
  have z3 : X.frozen? ⟨w.heap.size, 3, none⟩ = false := HX.out.frozen 3
  have z5 : X.frozen? ⟨w.heap.size, 5, none⟩ = false := HX.out.frozen 5
  have z8 : X.frozen? ⟨w.heap.size, 8, none⟩ = false := HX.out.frozen 8
  have l2 := (cutN_le o.key 40).1
  have l3 := (cutN_le o.gate 40).1
  have l5 := (cutN_le o.anchor 40).1
  have l8 := (cutN_le o.of_ 40).1
  have HXf : Hid (Blk ((((X.setCell ⟨w.heap.size, 2, none⟩ (.string (o.key.extract 0 (cutN o.key 40)))).setCell ⟨w.heap.size, 3, none⟩ (.string (o.gate.extract 0 (cutN o.gate 40)))).setCell ⟨w.heap.size, 5, none⟩ (.string (o.anchor.extract 0 (cutN o.anchor 40)))).setCell ⟨w.heap.size, 8, none⟩ (.string (o.of_.extract 0 (cutN o.of_ 40)))) w.heap.size 41 (cutO o).cs) := Lib.hid ((((HX.out.set_ 2 _).set_ 3 _).set_ 5 _).set_ 8 _)
  have HRf : Hid (Blk ((((X.setCell ⟨w.heap.size, 2, none⟩ (.string (o.key.extract 0 (cutN o.key 40)))).setCell ⟨w.heap.size, 3, none⟩ (.string (o.gate.extract 0 (cutN o.gate 40)))).setCell ⟨w.heap.size, 5, none⟩ (.string (o.anchor.extract 0 (cutN o.anchor 40)))).setCell ⟨w.heap.size, 8, none⟩ (.string (o.of_.extract 0 (cutN o.of_ 40)))) (w.heap.size + 1) 41 zOu.cs) := Lib.hid ((((HR.out.far (p := ⟨w.heap.size, 2, none⟩) (by simp) _).far (p := ⟨w.heap.size, 3, none⟩) (by simp) _).far (p := ⟨w.heap.size, 5, none⟩) (by simp) _).far (p := ⟨w.heap.size, 8, none⟩) (by simp) _)
  have HBf : Hid (Below w.heap.size w ((((X.setCell ⟨w.heap.size, 2, none⟩ (.string (o.key.extract 0 (cutN o.key 40)))).setCell ⟨w.heap.size, 3, none⟩ (.string (o.gate.extract 0 (cutN o.gate 40)))).setCell ⟨w.heap.size, 5, none⟩ (.string (o.anchor.extract 0 (cutN o.anchor 40)))).setCell ⟨w.heap.size, 8, none⟩ (.string (o.of_.extract 0 (cutN o.of_ 40))))) := (((HB.out.setCell (by simp) _).setCell (by simp) _).setCell (by simp) _).setCell (by simp) _
  clear HX HR HB
  go_upto_region 5 with fail
  simp only [cutN_if40, Int.toNat_natCast]
  clear c2 c3 c5 c8 z2 z3 z5 z8 l2 l3 l5 l8
  go_wp2_with (first
    | (refine wpList_load_blk rfl 41 (.tmp 1) rfl w.heap.size 0 9 HXf.out (cutO o).cs (by rfl) (by rfl) Tryz.underlying41 infoOuC (Nat.le_refl 9) ?_)
    | (refine wpList_store_part rfl 41 (.tmp 2) (.tmp 35) rfl (w.heap.size + 1) 0 HRf.out (cutO o).cs (cutO o).cs (by rfl) (by rfl) (Nat.le_refl 9) infoOuC (oucs_one _) (ou_over _ rfl) ?_; intro W6 hb6 hc6; have HT := Lib.hid hb6; have HC6 := Lib.hid hc6; clear hb6 hc6))
  exact bodyPost_ret (results_cell_row rfl _ _ (w.heap.size + 1) 41 _ (0, 0) _ rfl HT.out Tryz.underlying41 rfl infoOuC) rfl ⟨rfl, HBf.out.trans (HC6.out.below HBf.out.size (by simp))⟩
end Go.Proofs.YtdoebmikjgmnaaaGreat
namespace Go.Proofs.YtdoebmikjgmnaaaGreat
open Go.RowKit Go.Maps
def cutK (t : Tk) : Tk := { t with ch := cutT t.ch 40, com := cutT t.com 40, sig := cutT t.sig 450 }
theorem tkcsC_one (t : Tk) : t.cs.all (·.oneCell') = true := by
  rw [Array.all_eq_true']
  intro x hx
  simp only [Tk.cs, List.mem_toArray, List.mem_cons, List.not_mem_nil, or_false] at hx
  rcases hx with rfl | rfl | rfl | rfl | rfl | rfl | rfl | rfl <;> rfl
theorem tkC_over (t : Tk) {cs : Array Value} (h : cs.size = 8) : over cs 0 t.cs.toList = t.cs := (over_full t.cs.toList cs (by rw [h]; rfl)).trans (Array.toArray_toList ..)
set_option maxRecDepth 100000 in
set_option maxHeartbeats 1000000 in
theorem cutticket_any (t : Tk) (w : World) : Calls Tryz.prog 120 #[.agg t.cs] w fun e w' => e = .returned (.agg (cutK t).cs) ∧ Below w.heap.size w w' := by
  have HX : Hid (Blk ((w.alloc (.cells t.cs 178)).alloc (.cells zTk0.cs 178)) w.heap.size 178 t.cs) := Lib.hid ((Blk.new _ _ _).alloc _)
  have HR : Hid (Blk ((w.alloc (.cells t.cs 178)).alloc (.cells zTk0.cs 178)) (w.heap.size + 1) 178 zTk0.cs) := Blk.newAt (by simp)
  have HB : Hid (Below w.heap.size w ((w.alloc (.cells t.cs 178)).alloc (.cells zTk0.cs 178))) := ((Below.refl _ _).alloc (Nat.le_refl _) _).alloc (by simp) _
  go_enter Tryz.func120, Tryz.ntmps120
  go_upto_region 1 with fail
  refine wp_gen fun X hX => ?_
  replace HX : Hid (Blk X w.heap.size 178 t.cs) := Lib.hid (by rw [hX]; exact HX.out)
  replace HR : Hid (Blk X (w.heap.size + 1) 178 zTk0.cs) := Lib.hid (by rw [hX]; exact HR.out)
  replace HB : Hid (Below w.heap.size w X) := Lib.hid (by rw [hX]; exact HB.out)
  clear hX
  have c0 : X.cell? ⟨w.heap.size, 0, none⟩ = some (.string t.ch) := HX.out.cell 0
  have c5 : X.cell? ⟨w.heap.size, 5, none⟩ = some (.string t.com) := HX.out.cell 5
  have c7 : X.cell? ⟨w.heap.size, 7, none⟩ = some (.string t.sig) := HX.out.cell 7
  have z0 : X.frozen? ⟨w.heap.size, 0, none⟩ = false := HX.out.frozen 0
  have z5 : X.frozen? ⟨w.heap.size, 5, none⟩ = false := HX.out.frozen 5
  have z7 : X.frozen? ⟨w.heap.size, 7, none⟩ = false := HX.out.frozen 7
  have l0 := (cutN_le t.ch 40).1
  have l5 := (cutN_le t.com 40).1
  have l7 := (cutN_le t.sig 450).1
  have HXf : Hid (Blk (((X.setCell ⟨w.heap.size, 0, none⟩ (.string (t.ch.extract 0 (cutN t.ch 40)))).setCell ⟨w.heap.size, 5, none⟩ (.string (t.com.extract 0 (cutN t.com 40)))).setCell ⟨w.heap.size, 7, none⟩ (.string (t.sig.extract 0 (cutN t.sig 450)))) w.heap.size 178 (cutK t).cs) := Lib.hid (((HX.out.set_ 0 _).set_ 5 _).set_ 7 _)
  have HRf : Hid (Blk (((X.setCell ⟨w.heap.size, 0, none⟩ (.string (t.ch.extract 0 (cutN t.ch 40)))).setCell ⟨w.heap.size, 5, none⟩ (.string (t.com.extract 0 (cutN t.com 40)))).setCell ⟨w.heap.size, 7, none⟩ (.string (t.sig.extract 0 (cutN t.sig 450)))) (w.heap.size + 1) 178 zTk0.cs) := Lib.hid (((HR.out.far (p := ⟨w.heap.size, 0, none⟩) (by simp) _).far (p := ⟨w.heap.size, 5, none⟩) (by simp) _).far (p := ⟨w.heap.size, 7, none⟩) (by simp) _)
  have HBf : Hid (Below w.heap.size w (((X.setCell ⟨w.heap.size, 0, none⟩ (.string (t.ch.extract 0 (cutN t.ch 40)))).setCell ⟨w.heap.size, 5, none⟩ (.string (t.com.extract 0 (cutN t.com 40)))).setCell ⟨w.heap.size, 7, none⟩ (.string (t.sig.extract 0 (cutN t.sig 450))))) := ((HB.out.setCell (by simp) _).setCell (by simp) _).setCell (by simp) _
  clear HX HR HB
  go_upto_region 4 with fail
  simp only [cutN_if40, cutN_if450, Int.toNat_natCast]
  clear c0 c5 c7 z0 z5 z7 l0 l5 l7
  go_wp2_with (first
    | (refine wpList_load_blk rfl 178 (.tmp 1) rfl w.heap.size 0 8 HXf.out (cutK t).cs (by rfl) (by rfl) Tryz.underlying178 infoTk' (Nat.le_refl 8) ?_)
    | (refine wpList_store_part rfl 178 (.tmp 2) (.tmp 27) rfl (w.heap.size + 1) 0 HRf.out (cutK t).cs (cutK t).cs (by rfl) (by rfl) (Nat.le_refl 8) infoTk' (tkcsC_one _) (tkC_over _ rfl) ?_; intro W6 hb6 hc6; have HT := Lib.hid hb6; have HC6 := Lib.hid hc6; clear hb6 hc6))
  exact bodyPost_ret (results_cell_row rfl _ _ (w.heap.size + 1) 178 _ (0, 0) _ rfl HT.out Tryz.underlying178 rfl infoTk') rfl ⟨rfl, HBf.out.trans (HC6.out.below HBf.out.size (by simp))⟩
def cutW (x : Wn) : Wn := ⟨cutK x.t, cutT x.salt 40, x.drawn⟩
theorem cutW_fit {x : Wn} (h : x.fit) : (cutW x).fit := ⟨h.ser, h.face, h.wins, h.many, h.cl, h.drawn, by show (cutT x.salt 40).size ≤ _; rw [cutT_size]; have := (cutN_le x.salt 40).2; omega⟩
end Go.Proofs.YtdoebmikjgmnaaaGreat
namespace Go.Proofs.YtdoebmikjgmnaaaGreat
open Go.RowKit Go.Maps
theorem cutticket_x (t : Tk) (w : World) : Calls Tryz.prog 120 #[.agg t.cs] w fun e w' => e = .returned (.agg #[.string (cutT t.ch 40), .int .u64 (t.ser : Nat), .int .u64 (t.face : Nat), .int .u64 (t.wins : Nat), .int .u64 (t.many : Nat), .string (cutT t.com 40), .int .u64 (t.cl : Nat), .string (cutT t.sig 450)]) ∧ Below w.heap.size w w' := cutticket_any t w
theorem cutout_x (o : Ou) (w : World) : Calls Tryz.prog 55 #[.agg o.cs] w fun e w' => e = .returned (.agg #[.int .i64 o.kind, .int .u64 (o.am : Nat), .string (cutT o.key 40), .string (cutT o.gate 40), .int .i64 o.ex, .string (cutT o.anchor 40), .int .u64 (o.unit : Nat), .int .i64 o.tok, .string (cutT o.of_ 40)]) ∧ Below w.heap.size w w' := cutout_any o w
theorem wn_tk (x : Wn) : x.cs.extract 0 (0 + 8) = x.t.cs := by rfl
set_option maxRecDepth 100000 in
set_option maxHeartbeats 500000 in
theorem cutwin_any (x : Wn) (w0 : World) : Calls Tryz.prog 96 #[.agg x.cs] w0 fun e w' => e = .returned (.agg (cutW x).cs) ∧ Below w0.heap.size w0 w' := by
  have HX : Hid (Blk ((w0.alloc (.cells x.cs 180)).alloc (.cells zWn.cs 180)) w0.heap.size 180 x.cs) := Lib.hid ((Blk.new _ _ _).alloc _)
  have HR : Hid (Blk ((w0.alloc (.cells x.cs 180)).alloc (.cells zWn.cs 180)) (w0.heap.size + 1) 180 zWn.cs) := Blk.newAt (by simp)
  have HB : Hid (Below w0.heap.size w0 ((w0.alloc (.cells x.cs 180)).alloc (.cells zWn.cs 180))) := ((Below.refl _ _).alloc (Nat.le_refl _) _).alloc (by simp) _
  have l8 := (cutN_le x.salt 40).1
  go_enter Tryz.func96, Tryz.ntmps96
  go_upto_region 1 with fail
  refine wp_gen fun X0 hX => ?_
  replace HX : Hid (Blk X0 w0.heap.size 180 x.cs) := Lib.hid (by rw [hX]; exact HX.out)
  replace HR : Hid (Blk X0 (w0.heap.size + 1) 180 zWn.cs) := Lib.hid (by rw [hX]; exact HR.out)
  replace HB : Hid (Below w0.heap.size w0 X0) := Lib.hid (by rw [hX]; exact HB.out)
  clear hX
  refine wp_region_held_drew (S := fun W => Hid (Blk W w0.heap.size 180 x.cs)) (by kernel_rfl) (Lib.hid (HX.out.drewN 1)) (fun hS => ?_)
  replace HX : Hid (Blk X0.drew w0.heap.size 180 x.cs) := Lib.hid (HX.out.drewN 1)
  replace HR : Hid (Blk X0.drew (w0.heap.size + 1) 180 zWn.cs) := Lib.hid (HR.out.drewN 1)
  replace HB : Hid (Below w0.heap.size w0 X0.drew) := HB.out.drew
  refine wpAnyH_genT fun X hX => ?_
  rw [← hX] at HX HR HB hS
  clear hX
  refine wpAnyH_take (i := 0) (v := ?_) rfl (by kernel_rfl) (by kernel_rfl) (by kernel_rfl) (fun _ _ _ h => h) (Or.inl ⟨by rfl, ?_⟩) hS ?_
  rotate_left
  · (intro w _; go_simp; try with_reducible rfl)
  refine wpAnyH_take (i := 1) (v := .agg x.t.cs) rfl (by kernel_rfl) (by kernel_rfl) (by kernel_rfl) (fun _ _ _ h => h) (yields_blk (by rfl) 178 (.tmp 3) (by rfl) w0.heap.size 0 8 (t := 180) (cs := x.cs) (fun W h => h.out) x.t.cs (by rfl) (wn_tk x) Tryz.underlying178 infoTk' (by show 8 ≤ 10; omega)) hS ?_
  refine wpAnyH_take (i := 3) (v := ?_) rfl (by kernel_rfl) (by kernel_rfl) (by kernel_rfl) (fun _ _ _ h => h) (Or.inl ⟨by rfl, ?_⟩) hS ?_
  rotate_left
  · (intro w _; go_simp; try with_reducible rfl)
  refine wpAnyH_take (i := 4) (v := ?_) rfl (by kernel_rfl) (by kernel_rfl) (by kernel_rfl) (fun _ _ _ h => h) (Or.inl ⟨by rfl, ?_⟩) hS ?_
  rotate_left
  · (intro w hS'; have hcell := (show World.cell? _ ⟨w0.heap.size, 8, none⟩ = some (.string x.salt) from Blk.cell hS'.out 8); go_simp; try with_reducible rfl)
  refine wpAnyH_take (i := 5) (v := ?_) rfl (by kernel_rfl) (by kernel_rfl) (by kernel_rfl) (fun _ _ _ h => h) (Or.inl ⟨by rfl, ?_⟩) hS ?_
  rotate_left
  · (intro w _; go_simp; try with_reducible rfl)
  refine wpAnyH_take (i := 6) (v := ?_) rfl (by kernel_rfl) (by kernel_rfl) (by kernel_rfl) (fun _ _ _ h => h) (Or.inl ⟨by rfl, ?_⟩) hS ?_
  rotate_left
  · (intro w hS'; have hcell := (show World.cell? _ ⟨w0.heap.size, 8, none⟩ = some (.string x.salt) from Blk.cell hS'.out 8); go_simp; try with_reducible rfl)
  refine wpAnyH_take (i := 7) (v := ?_) rfl (by kernel_rfl) (by kernel_rfl) (by kernel_rfl) (fun _ _ _ h => h) (Or.inl ⟨by rfl, ?_⟩) hS ?_
  rotate_left
  · (intro w _; go_simp; try with_reducible rfl)
  refine wpAnyH_take (i := 8) (v := .int .i64 ((cutN x.salt 40 : Nat) : Int)) rfl (by kernel_rfl) (by kernel_rfl) (by kernel_rfl) (fun _ _ _ h => h) (Or.inl ⟨by rfl, ?_⟩) hS ?_
  · intro w _
    go_simp
    rw [cutN_if40]
  refine wpAnyH_take (i := 9) (v := ?_) rfl (by kernel_rfl) (by kernel_rfl) (by kernel_rfl) (fun _ _ _ h => h) (Or.inl ⟨by rfl, ?_⟩) hS ?_
  rotate_left
  · (intro w _; go_simp; try with_reducible rfl)
  refine wpAnyH_take (i := 10) (v := ?_) rfl (by kernel_rfl) (by kernel_rfl) (by kernel_rfl) (fun _ _ _ h => h) (Or.inl ⟨by rfl, ?_⟩) hS ?_
  rotate_left
  · (intro w _; go_simp; try with_reducible rfl)
  refine wpAnyH_take (i := 11) (v := ?_) rfl (by kernel_rfl) (by kernel_rfl) (by kernel_rfl) (fun _ _ _ h => h) (Or.inl ⟨by rfl, ?_⟩) hS ?_
  rotate_left
  · (intro w hS'; have hcell := (show World.cell? _ ⟨w0.heap.size, 9, none⟩ = some (.int .u64 x.drawn) from Blk.cell hS'.out 9); go_simp; try with_reducible rfl)
  refine wpAnyH_ready (rs := [2]) (by kernel_rfl) (by simp) (AllReadyH.cons rfl (fun K hK => ?_) AllReadyH.nil)
  go_simp
  refine (cutticket_x x.t _).mono ?_
  rintro e W ⟨rfl, hb⟩
  replace HX := Lib.hid (HX.out.bel hb)
  replace HR := Lib.hid (HR.out.bel hb)
  replace HB := Lib.hid (HB.out.trans (hb.mono HB.out.size))
  clear hb hS
  go_simp
  refine hK.out _ _ HX (fun hS => ?_)
  clear hK K
  refine wpAnyH_take (i := 12) (v := ?_) rfl (by kernel_rfl) (by kernel_rfl) (by kernel_rfl) (fun _ _ _ h => h) (Or.inl ⟨by rfl, ?_⟩) hS ?_
  rotate_left
  · (intro w _; go_simp; try with_reducible rfl)
  refine wpAnyH_ready (rs := [13]) (by kernel_rfl) (by simp) (AllReadyH.cons rfl (fun K hK => ?_) AllReadyH.nil)
  refine step_store_part (by rfl) 180 (.tmp 2) (.tmp 15) (by rfl) (w0.heap.size + 1) 0 HR.out (cutW x).cs (cutW x).cs (by rfl) (by rfl) (Nat.le_refl 10) infoWn (wncs_one _) (wncs_over zWn _) ?_
  intro W1 hb1 hc1
  have HT := Lib.hid hb1
  have HC := Lib.hid hc1
  clear hb1 hc1
  refine hK.out _ _ (Lib.hid (Blk.ch hS.out HC.out (by simp))) (fun _ => ?_)
  clear hK K hS
  refine wpAnyH_done (by kernel_rfl) ?_ _
  go_wp2_with fail
  exact bodyPost_ret (results_cell_row rfl _ _ (w0.heap.size + 1) 180 _ (0, 0) _ rfl HT.out Tryz.underlying180 rfl infoWn) rfl ⟨rfl, HB.out.trans (HC.out.below HB.out.size (by simp))⟩
end Go.Proofs.YtdoebmikjgmnaaaGreat
namespace Go.Proofs.YtdoebmikjgmnaaaGreat
open Go.RowKit Go.Maps
def cutE (e : En) : En := ⟨cutT e.tx 40, e.out, cutO e.o⟩
theorem en_ou (e : En) : e.cs.extract 2 (2 + 9) = e.o.cs := by rfl
end Go.Proofs.YtdoebmikjgmnaaaGreat
namespace Go.Proofs.YtdoebmikjgmnaaaGreat
open Go.RowKit Go.Maps
/-- a call of a script -/
structure Op17 where
  kind : Int
  am : Nat
  s : ByteArray
  x : Wn
  e : En
  r : Nat
def Op17.cs (o : Op17) : Array Value := #[.int .i64 o.kind, .int .u64 (o.am : Nat), .string o.s, .string o.x.t.ch, .int .u64 (o.x.t.ser : Nat), .int .u64 (o.x.t.face : Nat), .int .u64 (o.x.t.wins : Nat), .int .u64 (o.x.t.many : Nat), .string o.x.t.com, .int .u64 (o.x.t.cl : Nat), .string o.x.t.sig, .string o.x.salt, .int .u64 (o.x.drawn : Nat),
  .string o.e.tx, .int .i64 o.e.out, .int .i64 o.e.o.kind, .int .u64 (o.e.o.am : Nat), .string o.e.o.key, .string o.e.o.gate, .int .i64 o.e.o.ex, .string o.e.o.anchor, .int .u64 (o.e.o.unit : Nat), .int .i64 o.e.o.tok, .string o.e.o.of_, .int .u64 (o.r : Nat)]
theorem op_win (o : Op17) : o.cs.extract 3 (3 + 10) = o.x.cs := by rfl
theorem op_en (o : Op17) : o.cs.extract 13 (13 + 11) = o.e.cs := by rfl
structure Op17.fit (o : Op17) : Prop where
  am : o.am < 18446744073709551616
  s : o.s.size ≤ 1000000
  x : o.x.fit
  eam : o.e.o.am < 18446744073709551616
  r : o.r < 18446744073709551616
/-- a state of a channel that was made -/
structure St.good (s : St) (mt : Nat) : Prop where
  fit : s.fit
  an : s.lock.o.anchor.size = 16
  tok : s.lock.o.tok = (mt : Int)
  mt : mt ≤ 4096
  tops : s.tops.length ≤ 900
  wins : s.wins.length ≤ 900
def playE (s : St) (mt : Nat) (o : Op17) : Int :=
  if o.kind = 0 then vouE s o.am o.s o.r else if o.kind = 1 then tokE s o.s mt o.r else if o.kind = 2 then ticE s o.x o.r else if o.kind = 3 then moreE s o.e (fitsB o.e.o) else 0
def playS (s : St) (mt : Nat) (o : Op17) : St :=
  if o.kind = 0 then s.vouch o.am o.s else if o.kind = 1 then s.token o.s (cntN s.lock.o.anchor o.s mt) else if o.kind = 2 then tickS s o.x else if o.kind = 3 then s.addtop o.e else s.shut
end Go.Proofs.YtdoebmikjgmnaaaGreat
