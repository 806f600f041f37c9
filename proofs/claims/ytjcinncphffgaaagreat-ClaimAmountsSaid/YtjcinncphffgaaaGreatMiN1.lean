/- draw.Nominal of any numbers. channel.Ticket, of any state. channel.Ticket, of any state: a ticket that won. channel.Ticket, of any state. channel.More, of any state. channel.More, of any state: the walk, up to its tests. channel.New, Close, of any output and state. slices.Equal, note.Same, channel.Same of what is alike. channel.Same of states that are alike. law09's CutOut, law17's cut, law08's cutTicket and cutWin, of anything. law08's cutTicket, cutWin, of anything. law08's cutWin; law17's cut, of anything. law17's cut, of anything. law17: play, of any state and call. -/
import Derived.Outline
import Derived.Deep.RegionHeld3
import Derived.Deep.DeepCutAuto
import Derived.Deep.CutBlock
import Derived.Deep.AppendLies
import Derived.Test.YtjcinncphffgaaaGreatMiG26
import Derived.Test.YtjcinncphffgaaaGreatMiLotD
import Derived.Test.YtjcinncphffgaaaGreatMiNum
set_option linter.unusedVariables false
set_option linter.unusedSimpArgs false
namespace Go.Proofs.YtjcinncphffgaaaGreat
section
open Go.RowKit
def nomE (f n m : Nat) : Int := if mayN m && decide (n ≤ m) then (if f * n % m = 0 then 0 else 4) else 1
def nomV (f n m : Nat) : Nat := if nomE f n m = 0 then f * n / m else 0
theorem mayN_bd {m : Nat} (h : mayN m = true) : 1 ≤ m ∧ m ≤ 4294967296 := of_decide_eq_true h
theorem nomV_lt (f n m : Nat) (hf : f < 18446744073709551616) : nomV f n m < 18446744073709551616 := by
 unfold nomV nomE
 by_cases h : (mayN m && decide (n ≤ m)) = true
 ·rw [if_pos h]
  have h' := h
  simp only [Bool.and_eq_true, decide_eq_true_eq] at h'
  have hb := mayN_bd h'.1
  have hle : f * n / m ≤ f := by
   refine Nat.div_le_of_le_mul ?_
   rw [Nat.mul_comm]
   exact Nat.mul_le_mul_right f h'.2
  by_cases h2 : f * n % m = 0
  ·rw [if_pos h2, if_pos rfl]; omega
  ·rw [if_neg h2, if_neg (by omega)]; omega
 ·rw [if_neg h, if_neg (by omega)]; omega
set_option maxRecDepth 100000 in
set_option maxHeartbeats 1000000 in
theorem nominal_gen (f n m : Nat) (w : World) (hf : f < 18446744073709551616) (hn6 : n < 18446744073709551616) (hm6 : m < 18446744073709551616) :
  Calls Tryz.prog 171 #[.int .u64 f, .int .u64 n, .int .u64 m] w fun e w' => e = .returned (.tuple #[.int .u64 (nomV f n m : Nat), .int .i64 (nomE f n m)]) ∧ w = w' := by
 have HD := fun W => Lib.hid (dmayB_any m W hm6)
 by_cases h1 : mayN m = true
 ·have hb := mayN_bd h1
  by_cases h2 : n ≤ m
  ·by_cases h3 : f * n % m = 0
   ·refine (nominal_any f n m w hf hb.1 hb.2 h2 h3).mono ?_
    rintro e w' ⟨rfl, rfl⟩
    have hE : nomE f n m = 0 := by unfold nomE; rw [h1, decide_eq_true h2, Bool.and_self, if_pos rfl, if_pos h3]
    exact ⟨by unfold nomV; rw [hE, if_pos rfl], rfl⟩
   ·have hE : nomE f n m = 4 := by unfold nomE; rw [h1, decide_eq_true h2, Bool.and_self, if_pos rfl, if_neg h3]
    rw [show nomV f n m = 0 by unfold nomV; rw [hE, if_neg (by decide)], hE]
    have H1 := fun W => Lib.hid (rem_any f n m W (by omega) hm6 hf hn6)
    have hpos : 0 < f * n % m := by omega
    generalize f * n % m = q at H1 hpos
    have d1 : decide ((0 : Int) < (q : Int)) = true := decide_eq_true (by omega)
    have d1' : decide (0 < q) = true := decide_eq_true hpos
    have d3 : decide ((m : Int) < n) = false := decide_eq_false (by omega)
    have d3' : decide (m < n) = false := decide_eq_false (by omega)
    rw [h1] at HD
    clear h1 h2 h3 hE hb hf hn6 hm6 hpos
    go_enter Tryz.func171, Tryz.ntmps171
    go_wp2_with fail
    refine (HD _).out.mono ?_
    rintro e w' ⟨rfl, rfl⟩
    go_wp2_with fail
    refine (H1 _).out.mono ?_
    rintro e w1 ⟨rfl, rfl⟩
    go_wp2
    go_ret2
    exact ⟨rfl, rfl⟩
  ·have hE : nomE f n m = 1 := by unfold nomE; rw [h1, decide_eq_false h2]; rfl
   rw [show nomV f n m = 0 by unfold nomV; rw [hE, if_neg (by decide)], hE]
   have d3 : decide ((m : Int) < n) = true := decide_eq_true (by omega)
   have d3' : decide (m < n) = true := decide_eq_true (by omega)
   rw [h1] at HD
   clear h1 h2 hE hb hf hn6 hm6
   go_enter Tryz.func171, Tryz.ntmps171
   go_wp2_with fail
   refine (HD _).out.mono ?_
   rintro e w' ⟨rfl, rfl⟩
   go_wp2
   go_ret2
   exact ⟨rfl, rfl⟩
 ·have h1' : mayN m = false := by simpa using h1
  have hE : nomE f n m = 1 := by unfold nomE; rw [h1']; rfl
  rw [show nomV f n m = 0 by unfold nomV; rw [hE, if_neg (by decide)], hE]
  rw [h1'] at HD
  clear h1 h1' hE hf hn6 hm6
  go_enter Tryz.func171, Tryz.ntmps171
  go_wp2_with fail
  refine (HD _).out.mono ?_
  rintro e w' ⟨rfl, rfl⟩
  go_wp2
  go_ret2
  exact ⟨rfl, rfl⟩
end
section
open Go.RowKit Go.Maps
theorem capA_bd {a b : Int} (ha : 0 ≤ a) (hb : 0 ≤ b) : 0 ≤ capA a b ∧ capA a b < 18446744073709551616 := by
 unfold capA capN plusV plusE
 by_cases h : a + b < 18446744073709551616
 ·rw [if_pos h, if_pos h, if_pos rfl]; omega
 ·rw [if_neg h, if_neg h, if_neg (by omega)]; omega
theorem capA_nat (a b : Nat) : (((capA a b).toNat : Nat) : Int) = capA a b := by
 have := capA_bd (a := a) (b := b) (by omega) (by omega)
 omega
theorem capA_toNat_lt (a b : Nat) : (capA a b).toNat < 18446744073709551616 := by
 have := capA_bd (a := a) (b := b) (by omega) (by omega)
 omega
def St.addw (s : St) (x : Wn) : St := { s with wins := s.wins ++ [x], faces := (capA s.faces x.t.face).toNat }
def St.nom (s : St) (v : Nat) : St := { s with nominal := (capA s.nominal v).toNat }
/-- .. with another nominal -/
def St.nomN (s : St) (n : Nat) : St := { s with nominal := n }
/-- with a won ticket, its row somewhere -/
def St.wonS (s : St) (x : Wn) (B : Option Addr) (d : Nat) (f n : Nat) : St := { s with wins := s.wins ++ [x], B := B, d := d, faces := f, nominal := n }
theorem won_room (s : St) (x : Wn) (B : Option Addr) (d : Nat) (B' : Option Addr) (d' f n r : Nat) : xroomB (s.wonS x B d f n) r = xroomB (s.wonS x B' d' f n) r := rfl
theorem won_fit {s : St} (h : s.fit) (x : Wn) (B : Option Addr) (d : Nat) {f n : Nat} (h1 : f < 18446744073709551616) (h2 : n < 18446744073709551616) (hw : s.wins.length ≤ 900) : (s.wonS x B d f n).fit :=
 ⟨h.lam, h.lunit, h.am, h.tokens, h1, h2, h.tams, h.tops, by show (s.wins ++ [x]).length ≤ 1000; rw [List.length_append]; show s.wins.length + 1 ≤ 1000; omega, h.tx⟩
theorem won_set15 (s : St) (x : Wn) (g d : Nat) : s.cs.setIfInBounds 15 (.slice (some ⟨g, 0, none⟩) (s.wins.length + 1) d) = (s.wonS x (some ⟨g, 0, none⟩) d s.faces s.nominal).cs := by
 show _ = St.cs { s with wins := s.wins ++ [x], B := some ⟨g, 0, none⟩, d := d }
 unfold St.cs
 simp only [List.length_append, List.length_cons, List.length_nil, Nat.zero_add]
 rfl
theorem won_mem {s : St} {w : World} {base : Nat} {g d f n : Nat} (x : Wn) (h : s.mem w) (ho : w.ownsRow base 122 10 (.slice (some ⟨g, 0, none⟩) (s.wins.length + 1) d) (s.wins.length + 1) (s.wins.flatMap Wn.cl ++ x.cl)) : (s.wonS x (some ⟨g, 0, none⟩) d f n).mem w := by
 have hl : (s.wins ++ [x]).length = s.wins.length + 1 := by simp
 have hf : (s.wins ++ [x]).flatMap Wn.cl = s.wins.flatMap Wn.cl ++ x.cl := by simp
 refine ⟨h.tops, Sl.of_own (base := base) (n := s.wins.length + 1) (c := d) (e := 122) wncl_len (by rw [show (s.wonS x (some ⟨g, 0, none⟩) d f n).wins = s.wins ++ [x] from rfl, hl, hf]; exact ho), h.topsN, fun e => by cases e⟩
theorem LsAt.won {s : St} {x : Wn} {B B' : Option Addr} {d d' f n N : Nat} {w : World} {A2 B2 : Option Addr} {c2 d2 : Nat} (h : LsAt (s.wonS x B d f n) N w A2 c2 B2 d2) : LsAt (s.wonS x B' d' f n) N w A2 c2 B2 d2 := ⟨h.r1, h.r2, h.n1, h.n2⟩
theorem won_cell15 (s : St) (x : Wn) (B : Option Addr) (d f n : Nat) : (s.wonS x B d f n).cs[15]? = some (.slice B (s.wins.length + 1) d) := by
 show some (Value.slice B (s.wins ++ [x]).length d) = _
 rw [List.length_append]; rfl
def ticV (x : Wn) : Nat := nomV x.t.face x.t.wins x.t.many
def ticB (x : Wn) : Bool := winsB x.drawn x.t.cl x.t.wins x.t.many
def tickS (s : St) (x : Wn) : St := if ticB x then (s.addw x).nom (ticV x) else s.nom (ticV x)
def ticE (s : St) (x : Wn) (r : Nat) : Int :=
 if s.closed then 8
 else if nomE x.t.face x.t.wins x.t.many ≠ 0 then nomE x.t.face x.t.wins x.t.many
 else if winsOk x.drawn x.t.wins x.t.many = false then 1
 else if ticB x then
  (if winE s x ≠ 0 then winE s x else if ((s.addw x).nom (ticV x)).nominal = 18446744073709551615 then 9 else if 3 < s.wins.length + 1 then 9 else if xroomB ((s.addw x).nom (ticV x)) r then 0 else 9)
 else (if (s.nom (ticV x)).nominal = 18446744073709551615 then 9 else 0)
theorem St.fit.with_ {s : St} (h : s.fit) (f n : Nat) (l : List Wn) (h1 : f < 18446744073709551616) (h2 : n < 18446744073709551616) (h3 : l.length ≤ 1000) : St.fit ⟨s.lock, s.A, s.tops, s.c, s.am, s.sig, s.tok, s.B, l, s.d, s.tokens, f, n, s.closed⟩ := ⟨h.lam, h.lunit, h.am, h.tokens, h1, h2, h.tams, h.tops, h3, h.tx⟩
theorem St.mem.with_ {s : St} {w : World} (h : s.mem w) (f n : Nat) : St.mem ⟨s.lock, s.A, s.tops, s.c, s.am, s.sig, s.tok, s.B, s.wins, s.d, s.tokens, f, n, s.closed⟩ w := ⟨h.tops, h.wins, h.topsN, h.winsN⟩
theorem St.fit.addw {s : St} (h : s.fit) (x : Wn) (hw : s.wins.length ≤ 900) : (s.addw x).fit := h.with_ _ _ _ (capA_toNat_lt _ _) h.nominal (by rw [List.length_append]; show s.wins.length + 1 ≤ 1000; omega)
theorem St.fit.nom {s : St} (h : s.fit) (v : Nat) : (s.nom v).fit := h.with_ _ _ _ h.faces (capA_toNat_lt _ _) h.wins
theorem St.mem.nom {s : St} {w : World} (h : s.mem w) (v : Nat) : (s.nom v).mem w := h.with_ _ _
set_option maxRecDepth 100000 in
set_option maxHeartbeats 4000000 in
theorem tick_lost (s : St) (x : Wn) (r : Nat) (w : World) (hf : s.fit) (hw9 : s.wins.length ≤ 900) (hS : s.mem w) (hx : x.fit) (hr : r < 18446744073709551616) (hcl : s.closed = false) (h1 : nomE x.t.face x.t.wins x.t.many = 0) (hwo : winsOk x.drawn x.t.wins x.t.many = true) (hb : ticB x = false) :
  Calls Tryz.prog 124 #[.agg s.cs, .agg x.cs, .int .u64 (r : Nat)] w (ChR (s.nom (ticV x)) (if (s.nom (ticV x)).nominal = 18446744073709551615 then 9 else 0) w) := by
 obtain ⟨n0, hni, hw0, hw1, hw2⟩ := info_parts Tryz.infoWnC
 have Hnz := Lib.hid hw0
 have HX0 : Hid (∀ o, Blk (((w.alloc (.cells s.cs 103)).alloc (.cells x.cs 122)).alloc o) w.heap.size 103 s.cs) := Lib.hid (fun o => ((Blk.new w _ _).alloc _).alloc o)
 have HW0 : Hid (∀ o, Blk (((w.alloc (.cells s.cs 103)).alloc (.cells x.cs 122)).alloc o) (w.heap.size + 1) 122 x.cs) := Lib.hid (fun o => Blk.alloc (Blk.newAt (by simp)) o)
 have HR : Hid (Blk (((w.alloc (.cells s.cs 103)).alloc (.cells x.cs 122)).alloc (.cells zSt 103)) (w.heap.size + 1 + 1) 103 zSt) := Blk.newAt (by simp)
 have HB : Hid (Below w.heap.size w (((w.alloc (.cells s.cs 103)).alloc (.cells x.cs 122)).alloc (.cells zSt 103))) := (((Below.refl _ _).alloc (Nat.le_refl _) _).alloc (by simp) _).alloc (by simp <;> omega) _
 have c19 : ∀ o, (((w.alloc (.cells s.cs 103)).alloc (.cells x.cs 122)).alloc o).cell? ⟨w.heap.size, 19, none⟩ = some (.bool s.closed) := fun o => (HX0.out o).cell 19
 have e2 : ∀ o, (((w.alloc (.cells s.cs 103)).alloc (.cells x.cs 122)).alloc o).cell? ⟨w.heap.size + 1, 2, none⟩ = some (.int .u64 x.t.face) := fun o => (HW0.out o).cell 2
 have e3 : ∀ o, (((w.alloc (.cells s.cs 103)).alloc (.cells x.cs 122)).alloc o).cell? ⟨w.heap.size + 1, 3, none⟩ = some (.int .u64 x.t.wins) := fun o => (HW0.out o).cell 3
 have e4 : ∀ o, (((w.alloc (.cells s.cs 103)).alloc (.cells x.cs 122)).alloc o).cell? ⟨w.heap.size + 1, 4, none⟩ = some (.int .u64 x.t.many) := fun o => (HW0.out o).cell 4
 have e6 : ∀ o, (((w.alloc (.cells s.cs 103)).alloc (.cells x.cs 122)).alloc o).cell? ⟨w.heap.size + 1, 6, none⟩ = some (.int .u64 x.t.cl) := fun o => (HW0.out o).cell 6
 have e9 : ∀ o, (((w.alloc (.cells s.cs 103)).alloc (.cells x.cs 122)).alloc o).cell? ⟨w.heap.size + 1, 9, none⟩ = some (.int .u64 x.drawn) := fun o => (HW0.out o).cell 9
 have HNO := fun W => Lib.hid (nominal_gen x.t.face x.t.wins x.t.many W hx.face hx.wins hx.many)
 have hv6 : ticV x < 18446744073709551616 := nomV_lt _ _ _ hx.face
 have hface := hx.face
 have hfac6 := hf.faces
 have hnom6 := hf.nominal
 have HM := Lib.hid hS
 have HF := Lib.hid hf
 have hmm6 := hx.many
 have hcl6 := hx.cl
 have HW1 := fun W => Lib.hid (wins_ok x.drawn x.t.cl x.t.wins x.t.many W hcl6 hwo)
 rw [show winsB x.drawn x.t.cl x.t.wins x.t.many = ticB x from rfl, hb] at HW1
 rw [show nomV x.t.face x.t.wins x.t.many = ticV x from rfl, h1] at HNO
 rw [hcl] at c19
 obtain ⟨f, hfe⟩ : ∃ f : Int, (if (s.nom (ticV x)).nominal = 18446744073709551615 then 9 else 0) = f := ⟨_, rfl⟩
 obtain ⟨S', hse⟩ : ∃ S' : St, s.nom (ticV x) = S' := ⟨_, rfl⟩
 rw [hfe, hse]
 have HE3 : Hid (f = if (s.nom (ticV x)).nominal = 18446744073709551615 then 9 else 0) := Lib.hid hfe.symm
 have HTS1 : Hid (S' = s.nom (ticV x)) := Lib.hid hse.symm
 clear hf hS hx hmm6 hcl6 hw0 hcl h1 hwo hb hfe hse
 have HAD := fun W => Lib.hid (add_any s.nominal (ticV x) W (by omega) (by omega) (by omega) (by omega))
 have HCA := fun W => Lib.hid (capped_any (plusV s.nominal (ticV x)) (plusE s.nominal (ticV x)) W)
 rw [capA_is] at HCA
 obtain ⟨nv, hnv⟩ : ∃ nv : Nat, (s.nom (ticV x)).nominal = nv := ⟨_, rfl⟩
 have hnv' : capA s.nominal (ticV x) = (nv : Int) := by rw [← hnv]; exact (capA_nat _ _).symm
 rw [hnv'] at HCA
 rw [hnv] at HE3
 have HSN : Hid (s.nom (ticV x) = s.nomN nv) := Lib.hid (by rw [← hnv]; rfl)
 rw [HSN.out] at HTS1
 have HFF : Hid (s.nomN nv).fit := Lib.hid (HSN.out ▸ HF.out.nom (ticV x))
 have HMM : Hid (∀ W, Below w.heap.size w W → (s.nomN nv).mem W) := Lib.hid (fun W hW => HSN.out ▸ (HM.out.bel hW).nom (ticV x))
 clear hnv hnv' HSN
 go_enter Tryz.func124, Tryz.ntmps124
 go_wp2_with fail
 refine (HNO _).out.mono ?_
 rintro e w1 ⟨rfl, rfl⟩
 go_wp2_with fail
 refine (HW1 _).out.mono ?_
 rintro e w1 ⟨rfl, rfl⟩
 go_upto_region 14 with fail
 refine wp_gen fun X hX => ?_
 have HX : Hid (Blk X w.heap.size 103 s.cs) := Lib.hid (by rw [hX]; exact HX0.out _)
 replace HR : Hid (Blk X (w.heap.size + 1 + 1) 103 zSt) := Lib.hid (by rw [hX]; exact HR.out)
 replace HB : Hid (Below w.heap.size w X) := Lib.hid (by rw [hX]; exact HB.out)
 clear hX HX0 HW0 c19 e2 e3 e4 e6 e9 HNO HW1
 have c18 : X.cell? ⟨w.heap.size, 18, none⟩ = some (.int .u64 s.nominal) := HX.out.cell 18
 have z18 : X.frozen? ⟨w.heap.size, 18, none⟩ = false := HX.out.frozen 18
 go_wp2_with fail
 refine (HAD _).out.mono ?_
 rintro e w1 ⟨rfl, hq⟩
 rw [hq]
 clear hq w1
 go_wp2_with fail
 refine (HCA _).out.mono ?_
 rintro e w1 ⟨rfl, hq⟩
 rw [hq]
 clear hq w1
 have HX2 : Hid (Blk (X.setCell ⟨w.heap.size, 18, none⟩ (.int .u64 (nv : Int))) w.heap.size 103 (s.nomN nv).cs) := Lib.hid (HX.out.set_ 18 (.int .u64 (nv : Int)))
 have HR2 : Hid (Blk (X.setCell ⟨w.heap.size, 18, none⟩ (.int .u64 (nv : Int))) (w.heap.size + 1 + 1) 103 zSt) := Lib.hid (HR.out.far (p := ⟨w.heap.size, 18, none⟩) (by simp <;> omega) _)
 have HB2 : Hid (Below w.heap.size w (X.setCell ⟨w.heap.size, 18, none⟩ (.int .u64 (nv : Int)))) := HB.out.setCell (by simp) _
 have u18 : (X.setCell ⟨w.heap.size, 18, none⟩ (.int .u64 (nv : Int))).cell? ⟨w.heap.size, 18, none⟩ = some (.int .u64 (nv : Int)) := HX2.out.cell 18
 clear HAD HCA HX HR HB
 have HR := HR2
 have HB := HB2
 clear HR2 HB2
 by_cases hn : nv = 18446744073709551615
 ·obtain rfl : f = 9 := by rw [HE3.out, if_pos hn]
  have hn1 : (nv : Int) = 18446744073709551615 := by omega
  have d5 : ((nv : Int) == 18446744073709551615) = true := by rw [hn1]; rfl
  clear hn hn1 HE3
  go_wp2_with (refine wpList_store_part rfl 103 (.tmp 6) (.tmp 105) rfl (w.heap.size + 1 + 1) 0 HR.out zSt zSt (by rfl) (by rfl) (Nat.le_refl 20) infoSta zStO (zStV rfl) ?_; intro W6 hb6 hc6; have HT := Lib.hid hb6; have HC6 := Lib.hid hc6; clear hb6 hc6)
  refine bodyPost_ret (results_cell_row2 rfl _ HT.out rfl Tryz.underlying103 infoSta) rfl ?_
  exact ⟨HB.out.trans (HC6.out.below HB.out.size (by simp <;> omega)), .inl ⟨by decide, rfl⟩⟩
 ·obtain rfl : f = 0 := by rw [HE3.out, if_neg hn]
  have d5 : ((nv : Int) == 18446744073709551615) = false := beq_eq_false_iff_ne.2 (by omega)
  obtain rfl := HTS1.out
  clear hn HE3 HTS1
  go_upto_region 17 with fail
  clear u18 d5
  go_wp2_with (refine wpList_load_blk rfl 103 (.tmp 3) rfl w.heap.size 0 20 HX2.out (s.nomN nv).cs (by rfl) (st_ext _) Tryz.underlying103 infoSta (st_le _) ?_)
  refine (xown_any ((s.nomN nv)) _ HFF.out (HMM.out _ HB.out)).mono ?_
  rintro e W4 ⟨V, A2, c2, B2, d2, rfl, ho⟩
  have hval := ho.val
  subst hval
  have hb := ho.below
  have HM2 := Lib.hid (ho.ls.mono HB.out.size)
  replace HR := Lib.hid (HR.out.bel hb)
  replace HB := Lib.hid (HB.out.trans (hb.mono HB.out.size))
  clear ho hb
  go_wp2_with (refine wpList_store_part rfl 103 (.tmp 6) (.tmp 107) rfl (w.heap.size + 1 + 1) 0 HR.out (((s.nomN nv)).lists A2 c2 B2 d2).cs (((s.nomN nv)).lists A2 c2 B2 d2).cs (by rfl) (by rfl) (Nat.le_refl 20) infoSta (stcs_one _) (st_over _ rfl) ?_; intro W6 hb6 hc6; have HT := Lib.hid hb6; have HC6 := Lib.hid hc6; clear hb6 hc6)
  refine bodyPost_ret (results_cell_row2 rfl _ HT.out rfl Tryz.underlying103 infoSta) rfl ?_
  exact ⟨HB.out.trans (HC6.out.below HB.out.size (by simp <;> omega)), .inr ⟨rfl, A2, c2, B2, d2, rfl, HM2.out.ch HC6.out HR.out.kdT⟩⟩
end
section
open Go.RowKit Go.Maps
set_option maxRecDepth 100000 in
set_option maxHeartbeats 2000000 in
theorem tick_won (s : St) (x : Wn) (r : Nat) (w : World) (hf : s.fit) (hw9 : s.wins.length ≤ 900) (hS : s.mem w) (hx : x.fit) (hr : r < 18446744073709551616) (hcl : s.closed = false) (h1 : nomE x.t.face x.t.wins x.t.many = 0) (hwo : winsOk x.drawn x.t.wins x.t.many = true) (hb : ticB x = true) :
  Calls Tryz.prog 124 #[.agg s.cs, .agg x.cs, .int .u64 (r : Nat)] w (ChR ((s.addw x).nom (ticV x)) (if winE s x ≠ 0 then winE s x else if ((s.addw x).nom (ticV x)).nominal = 18446744073709551615 then 9 else if 3 < s.wins.length + 1 then 9 else if xroomB ((s.addw x).nom (ticV x)) r then 0 else 9) w) := by
 obtain ⟨n0, hni, hw0, hw1, hw2⟩ := info_parts Tryz.infoWnC
 have Hnz := Lib.hid hw0
 have HX0 : Hid (∀ o, Blk (((w.alloc (.cells s.cs 103)).alloc (.cells x.cs 122)).alloc o) w.heap.size 103 s.cs) := Lib.hid (fun o => ((Blk.new w _ _).alloc _).alloc o)
 have HW0 : Hid (∀ o, Blk (((w.alloc (.cells s.cs 103)).alloc (.cells x.cs 122)).alloc o) (w.heap.size + 1) 122 x.cs) := Lib.hid (fun o => Blk.alloc (Blk.newAt (by simp)) o)
 have HR : Hid (Blk (((w.alloc (.cells s.cs 103)).alloc (.cells x.cs 122)).alloc (.cells zSt 103)) (w.heap.size + 1 + 1) 103 zSt) := Blk.newAt (by simp)
 have HB : Hid (Below w.heap.size w (((w.alloc (.cells s.cs 103)).alloc (.cells x.cs 122)).alloc (.cells zSt 103))) := (((Below.refl _ _).alloc (Nat.le_refl _) _).alloc (by simp) _).alloc (by simp <;> omega) _
 have c19 : ∀ o, (((w.alloc (.cells s.cs 103)).alloc (.cells x.cs 122)).alloc o).cell? ⟨w.heap.size, 19, none⟩ = some (.bool s.closed) := fun o => (HX0.out o).cell 19
 have e2 : ∀ o, (((w.alloc (.cells s.cs 103)).alloc (.cells x.cs 122)).alloc o).cell? ⟨w.heap.size + 1, 2, none⟩ = some (.int .u64 x.t.face) := fun o => (HW0.out o).cell 2
 have e3 : ∀ o, (((w.alloc (.cells s.cs 103)).alloc (.cells x.cs 122)).alloc o).cell? ⟨w.heap.size + 1, 3, none⟩ = some (.int .u64 x.t.wins) := fun o => (HW0.out o).cell 3
 have e4 : ∀ o, (((w.alloc (.cells s.cs 103)).alloc (.cells x.cs 122)).alloc o).cell? ⟨w.heap.size + 1, 4, none⟩ = some (.int .u64 x.t.many) := fun o => (HW0.out o).cell 4
 have e6 : ∀ o, (((w.alloc (.cells s.cs 103)).alloc (.cells x.cs 122)).alloc o).cell? ⟨w.heap.size + 1, 6, none⟩ = some (.int .u64 x.t.cl) := fun o => (HW0.out o).cell 6
 have e9 : ∀ o, (((w.alloc (.cells s.cs 103)).alloc (.cells x.cs 122)).alloc o).cell? ⟨w.heap.size + 1, 9, none⟩ = some (.int .u64 x.drawn) := fun o => (HW0.out o).cell 9
 have HNO := fun W => Lib.hid (nominal_gen x.t.face x.t.wins x.t.many W hx.face hx.wins hx.many)
 have HWI := fun W hW => Lib.hid (xwins_any s x W hf (hS.bel (w' := W) hW) hx)
 have hv6 : ticV x < 18446744073709551616 := nomV_lt _ _ _ hx.face
 have hface := hx.face
 have hfac6 := hf.faces
 have hnom6 := hf.nominal
 have HM := Lib.hid hS
 have HF := Lib.hid hf
 have hmm6 := hx.many
 have hcl6 := hx.cl
 have HW1 := fun W => Lib.hid (wins_ok x.drawn x.t.cl x.t.wins x.t.many W hcl6 hwo)
 rw [show winsB x.drawn x.t.cl x.t.wins x.t.many = ticB x from rfl, hb] at HW1
 rw [show nomV x.t.face x.t.wins x.t.many = ticV x from rfl, h1] at HNO
 rw [hcl] at c19
 obtain ⟨f, hfe⟩ : ∃ f : Int, (if winE s x ≠ 0 then winE s x else if ((s.addw x).nom (ticV x)).nominal = 18446744073709551615 then 9 else if 3 < s.wins.length + 1 then 9 else if xroomB ((s.addw x).nom (ticV x)) r then 0 else 9) = f := ⟨_, rfl⟩
 obtain ⟨S', hse⟩ : ∃ S' : St, (s.addw x).nom (ticV x) = S' := ⟨_, rfl⟩
 rw [hfe, hse]
 have HE3 : Hid (f = if winE s x ≠ 0 then winE s x else if ((s.addw x).nom (ticV x)).nominal = 18446744073709551615 then 9 else if 3 < s.wins.length + 1 then 9 else if xroomB ((s.addw x).nom (ticV x)) r then 0 else 9) := Lib.hid hfe.symm
 have HTS1 : Hid (S' = (s.addw x).nom (ticV x)) := Lib.hid hse.symm
 clear hf hS hx hmm6 hcl6 hw0 hcl h1 hwo hb hfe hse
 obtain ⟨fN, hfN⟩ : ∃ fN : Nat, (capA s.faces x.t.face).toNat = fN := ⟨_, rfl⟩
 have hfC : capA s.faces x.t.face = (fN : Int) := by rw [← hfN]; exact (capA_nat _ _).symm
 have hf6 : fN < 18446744073709551616 := by rw [← hfN]; exact capA_toNat_lt _ _
 obtain ⟨nv, hnv⟩ : ∃ nv : Nat, (capA s.nominal (ticV x)).toNat = nv := ⟨_, rfl⟩
 have hnC : capA s.nominal (ticV x) = (nv : Int) := by rw [← hnv]; exact (capA_nat _ _).symm
 have hn6 : nv < 18446744073709551616 := by rw [← hnv]; exact capA_toNat_lt _ _
 have HSN : Hid ((s.addw x).nom (ticV x) = s.wonS x s.B s.d fN nv) := Lib.hid (by rw [← hfN, ← hnv]; rfl)
 rw [HSN.out] at HE3 HTS1
 have HNN : Hid ((s.wonS x s.B s.d fN nv).nominal = nv) := rfl
 rw [HNN.out] at HE3
 have HFF := fun B d => Lib.hid (won_fit HF.out x B d hf6 hn6 hw9)
 have HRB : Hid (∀ B d, xroomB (s.wonS x s.B s.d fN nv) r = xroomB (s.wonS x B d fN nv) r) := Lib.hid (fun B d => won_room s x s.B s.d B d fN nv r)
 replace HRB := Lib.hid (fun B d => HRB.out B d)
 have HAD1 := fun W => Lib.hid (add_any s.faces x.t.face W (by omega) (by omega) (by omega) (by omega))
 have HCA1 := fun W => Lib.hid (capped_any (plusV s.faces x.t.face) (plusE s.faces x.t.face) W)
 rw [capA_is, hfC] at HCA1
 have HAD2 := fun W => Lib.hid (add_any s.nominal (ticV x) W (by omega) (by omega) (by omega) (by omega))
 have HCA2 := fun W => Lib.hid (capped_any (plusV s.nominal (ticV x)) (plusE s.nominal (ticV x)) W)
 rw [capA_is, hnC] at HCA2
 obtain rfl := HTS1.out
 have hwl : s.wins.length ≤ 1000 := by omega
 clear hfN hfC hf6 hnv hnC hn6 HSN HNN HTS1
 go_enter Tryz.func124, Tryz.ntmps124
 go_wp2_with fail
 refine (HNO _).out.mono ?_
 rintro e w1 ⟨rfl, rfl⟩
 go_wp2_with fail
 refine (HW1 _).out.mono ?_
 rintro e w1 ⟨rfl, rfl⟩
 go_upto_region 8 with fail
 refine wp_gen fun X0 hX => ?_
 have HX : Hid (Blk X0 w.heap.size 103 s.cs) := Lib.hid (by rw [hX]; exact HX0.out _)
 have HXW : Hid (Blk X0 (w.heap.size + 1) 122 x.cs) := Lib.hid (by rw [hX]; exact HW0.out _)
 replace HR : Hid (Blk X0 (w.heap.size + 1 + 1) 103 zSt) := Lib.hid (by rw [hX]; exact HR.out)
 replace HB : Hid (Below w.heap.size w X0) := Lib.hid (by rw [hX]; exact HB.out)
 clear hX HX0 HW0 c19 e2 e3 e4 e6 e9 HNO HW1
 go_wp2_with (first
  | (refine wpList_load_blk rfl 103 (.tmp 3) rfl w.heap.size 0 20 HX.out s.cs (by rfl) (st_ext _) Tryz.underlying103 infoSta (st_le _) ?_)
  | (refine wpList_load_blk rfl 122 (.tmp 4) rfl _ 0 10 HXW.out x.cs (by rfl) (by rfl) Tryz.underlying122 infoWn (Nat.le_refl 10) ?_))
 refine (HWI _ HB.out).out.mono ?_
 rintro e X1 ⟨rfl, hb⟩
 replace HX := Lib.hid (HX.out.bel hb)
 replace HXW := Lib.hid (HXW.out.bel hb)
 replace HR := Lib.hid (HR.out.bel hb)
 replace HB := Lib.hid (HB.out.trans (Below.mono hb HB.out.size))
 clear hb HWI
 generalize hwe : winE s x = we at HE3 ⊢
 by_cases hw : we = 0
 ·have HE4 : Hid (f = if nv = 18446744073709551615 then 9 else if 3 < s.wins.length + 1 then 9 else if xroomB (s.wonS x s.B s.d fN nv) r then 0 else 9) := Lib.hid (by rw [HE3.out, if_neg (by simp [hw])])
  have dw : (we != 0) = false := by simp [hw]
  clear hw hwe HE3
  go_upto_region 12 with fail
  have HSL : Hid (Sl X1 X1.heap.size 10 Wn.cl s.B s.wins) := Lib.hid (HM.out.bel HB.out).wins
  refine wp_region_held_drew (S := fun W => Hid (Blk W (w.heap.size + 1) 122 x.cs)) (by kernel_rfl) (Lib.hid (HXW.out.drewN 1)) (fun hS => ?_)
  replace HX : Hid (Blk X1.drew w.heap.size 103 s.cs) := Lib.hid (HX.out.drewN 1)
  replace HXW : Hid (Blk X1.drew (w.heap.size + 1) 122 x.cs) := Lib.hid (HXW.out.drewN 1)
  replace HR : Hid (Blk X1.drew (w.heap.size + 1 + 1) 103 zSt) := Lib.hid (HR.out.drewN 1)
  replace HB : Hid (Below w.heap.size w X1.drew) := HB.out.drew
  replace HSL : Hid (Sl X1.drew X1.drew.heap.size 10 Wn.cl s.B s.wins) := HSL
  refine wpAnyH_genT fun X hX => ?_
  rw [← hX] at HX HXW HR HB HSL hS
  clear hX dw
  have HBX : Hid (Below X.heap.size X X) := Below.refl _ _
  refine wpAnyH_take (i := 0) (v := ?_) rfl (by kernel_rfl) (by kernel_rfl) (by kernel_rfl) (fun _ _ _ h => h) (Or.inl ⟨by rfl, ?_⟩) hS ?_
  rotate_left
  ·(intro w _; go_simp; try with_reducible rfl)
  refine wpAnyH_take (i := 1) (v := ?_) rfl (by kernel_rfl) (by kernel_rfl) (by kernel_rfl) (fun _ _ _ h => h) (Or.inl ⟨by rfl, ?_⟩) hS ?_
  rotate_left
  ·(intro w _; go_simp; try with_reducible rfl)
  refine wpAnyH_take (i := 4) (v := .agg #[.string x.t.ch, .int .u64 (x.t.ser : Nat), .int .u64 (x.t.face : Nat), .int .u64 (x.t.wins : Nat), .int .u64 (x.t.many : Nat), .string x.t.com, .int .u64 (x.t.cl : Nat), .string x.t.sig, .string x.salt, .int .u64 (x.drawn : Nat)]) rfl (by kernel_rfl) (by kernel_rfl) (by kernel_rfl) (fun _ _ _ h => h) (yields_blk (by rfl) 122 (.tmp 4) (by rfl) (w.heap.size + 1) 0 10 (t := 122) (cs := x.cs) (fun W h => h.out) x.cs (by rfl) (by rfl) Tryz.underlying122 infoWn (Nat.le_refl 10)) hS ?_
  clear hS
  refine wpAnyH_ready (rs := [2, 5]) (by kernel_rfl) (by simp) (AllReadyH.cons rfl (fun K hK => ?_) (AllReadyH.cons rfl (fun K hK => ?_) AllReadyH.nil))
  ·have u15 : (X).cell? ⟨w.heap.size, 15, none⟩ = some (.slice s.B s.wins.length s.d) := (HX.out.bel HBX.out).cell 15
   go_simp
   refine hK.out _ _ (Lib.hid (HXW.out.bel HBX.out)) (fun _ => ?_)
   clear hK K u15
   refine wpAnyH_ready (rs := [3, 5]) (by kernel_rfl) (by simp) (AllReadyH.cons rfl (fun K hK => ?_) (AllReadyH.cons rfl (fun K hK => ?_) AllReadyH.nil))
   ·go_simp
    refine (clone_wn s.B s.wins s.d _ ((HSL.out.below HBX.out).more HBX.out.size) hwl HM.out.winsN).mono ?_
    rintro e X2 ⟨A2, c2, rfl, hO, hA2, hbl⟩
    have HO := Lib.hid (hO.mono HBX.out.size)
    replace HBX := Lib.hid (HBX.out.trans (hbl.mono HBX.out.size))
    have HBC := Lib.hid hbl
    clear hO hA2 hbl
    go_simp
    refine hK.out _ _ (Lib.hid (HXW.out.bel HBX.out)) (fun _ => ?_)
    clear hK K
    refine wpAnyH_ready (rs := [5]) (by kernel_rfl) (by simp) (AllReadyH.cons rfl (fun K hK => ?_) AllReadyH.nil)
    go_simp
    replace HBX := Lib.hid (HBX.out.alloc HBX.out.size (.cells x.cs 122))
    have HNB : Hid (Blk ((X2).alloc (.cells x.cs 122)) (X2).heap.size 122 x.cs) := Blk.new _ _ _
    refine hK.out _ _ (Lib.hid (HXW.out.bel HBX.out)) (fun _ => ?_)
    clear hK K
    refine wpAnyH_genT fun X1 hX1 => ?_
    replace hX1 : X1 = (X2).alloc (.cells x.cs 122) := hX1
    rw [← hX1] at HBX HNB
    replace HO := Lib.hid (HO.out.alloc (.cells x.cs 122))
    rw [← hX1] at HO
    clear hX1
    have HNW := Lib.hid (World.news_of_block HNB.out)
    refine wpAnyH_ready (rs := [6]) (by kernel_rfl) (by simp) (AllReadyH.cons rfl (fun K hK => ?_) AllReadyH.nil)
    refine step_append_lies _ (by rfl) (.tmp 62) (.tmp 64) 49 (by rfl) X.heap.size 122 n0 _ 10 112 Tryz.underlying49 hni Hnz.out hw1 hw2 rfl (by omega) (.slice A2 s.wins.length c2) s.wins.length _ (by rfl) HO.out ⟨X2.heap.size, 0, none⟩ 1 1 x.cl (by rfl) (by rfl) HNW.out (wncl_one x) (by omega) (by simp only [maxLen]; omega) (by omega) HBX.out.size _ rfl ?_
    intro gg cap W4 hown4 hgrow hat hlt4
    have hbase := own_base HO.out
    have HO4 := Lib.hid hown4
    replace HBX := Lib.hid (HBX.out.grown hgrow HBX.out.size hbase)
    clear hown4 hgrow hat hlt4 hbase HO HNB HNW
    refine hK.out _ _ (Lib.hid (HXW.out.bel HBX.out)) (fun hS4 => ?_)
    clear hK K
    refine wpAnyH_take (i := 7) (v := ?_) rfl (by kernel_rfl) (by kernel_rfl) (by kernel_rfl) (fun _ _ _ h => h) (Or.inl ⟨by rfl, ?_⟩) hS4 ?_
    rotate_left
    ·(intro w _; go_simp; try with_reducible rfl)
    refine wpAnyH_take (i := 8) (v := ?_) rfl (by kernel_rfl) (by kernel_rfl) (by kernel_rfl) (fun _ _ _ h => h) (Or.inl ⟨by rfl, ?_⟩) hS4 ?_
    rotate_left
    ·(intro w _; go_simp; try with_reducible rfl)
    refine wpAnyH_ready (rs := [9]) (by kernel_rfl) (by simp) (AllReadyH.cons rfl (fun K hK => ?_) AllReadyH.nil)
    have u15 : W4.cell? ⟨w.heap.size, 15, none⟩ = some (.slice s.B s.wins.length s.d) := (HX.out.bel HBX.out).cell 15
    have z15 : W4.frozen? ⟨w.heap.size, 15, none⟩ = false := (HX.out.bel HBX.out).frozen 15
    go_simp
    refine hK.out _ _ (Lib.hid ((HXW.out.bel HBX.out).far (p := ⟨w.heap.size, 15, none⟩) (by simp) _)) (fun _ => ?_)
    clear hK K u15 z15 hS4
    have HX5 : Hid (Blk (W4.setCell ⟨w.heap.size, 15, none⟩ (.slice (some ⟨gg, 0, none⟩) (s.wins.length + 1) cap)) w.heap.size 103 (s.wonS x (some ⟨gg, 0, none⟩) cap s.faces s.nominal).cs) := Lib.hid (by have q := (HX.out.bel HBX.out).set_ 15 (.slice (some ⟨gg, 0, none⟩) (s.wins.length + 1) cap); rw [won_set15 s x] at q; exact q)
    have HXW5 : Hid (Blk (W4.setCell ⟨w.heap.size, 15, none⟩ (.slice (some ⟨gg, 0, none⟩) (s.wins.length + 1) cap)) (w.heap.size + 1) 122 x.cs) := Lib.hid ((HXW.out.bel HBX.out).far (p := ⟨w.heap.size, 15, none⟩) (by simp) _)
    have HR5 : Hid (Blk (W4.setCell ⟨w.heap.size, 15, none⟩ (.slice (some ⟨gg, 0, none⟩) (s.wins.length + 1) cap)) (w.heap.size + 1 + 1) 103 zSt) := Lib.hid ((HR.out.bel HBX.out).far (p := ⟨w.heap.size, 15, none⟩) (by simp <;> omega) _)
    have HB5 : Hid (Below w.heap.size w (W4.setCell ⟨w.heap.size, 15, none⟩ (.slice (some ⟨gg, 0, none⟩) (s.wins.length + 1) cap))) := Lib.hid ((HB.out.trans (HBX.out.mono HB.out.size)).setCell (by simp) _)
    have HO5 := Lib.hid (own_chT HO4.out (Ch.set_ (S := [w.heap.size]) (b := w.heap.size) (by simp) W4 15 (.slice (some ⟨gg, 0, none⟩) (s.wins.length + 1) cap)) (HX.out.bel HBX.out).kdT (by decide))
    generalize W4.setCell ⟨w.heap.size, 15, none⟩ (.slice (some ⟨gg, 0, none⟩) (s.wins.length + 1) cap) = W5 at HX5 HXW5 HR5 HB5 HO5 ⊢
    refine wpAnyH_done (by kernel_rfl) ?_ _
    clear HO4 HX HXW HR HB HBX HSL
    have u17 : W5.cell? ⟨w.heap.size, 17, none⟩ = some (.int .u64 s.faces) := HX5.out.cell 17
    have z17 : W5.frozen? ⟨w.heap.size, 17, none⟩ = false := HX5.out.frozen 17
    have v2 : W5.cell? ⟨w.heap.size + 1, 2, none⟩ = some (.int .u64 x.t.face) := HXW5.out.cell 2
    go_wp2_with fail
    refine (HAD1 _).out.mono ?_
    rintro e w1 ⟨rfl, hq⟩
    rw [hq]
    clear hq w1
    go_wp2_with fail
    refine (HCA1 _).out.mono ?_
    rintro e w1 ⟨rfl, hq⟩
    rw [hq]
    clear hq w1
    have u18 : W5.cell? ⟨w.heap.size, 18, none⟩ = some (.int .u64 s.nominal) := HX5.out.cell 18
    have z18 : W5.frozen? ⟨w.heap.size, 18, none⟩ = false := HX5.out.frozen 18
    go_wp2_with fail
    refine (HAD2 _).out.mono ?_
    rintro e w1 ⟨rfl, hq⟩
    rw [hq]
    clear hq w1
    go_wp2_with fail
    refine (HCA2 _).out.mono ?_
    rintro e w1 ⟨rfl, hq⟩
    rw [hq]
    clear hq w1 HAD1 HAD2 HCA1 HCA2 v2
    have HX6 : Hid (Blk ((W5.setCell ⟨w.heap.size, 17, none⟩ (.int .u64 (fN : Int))).setCell ⟨w.heap.size, 18, none⟩ (.int .u64 (nv : Int))) w.heap.size 103 (s.wonS x (some ⟨gg, 0, none⟩) cap fN nv).cs) := Lib.hid ((HX5.out.set_ 17 (.int .u64 (fN : Int))).set_ 18 (.int .u64 (nv : Int)))
    have HR6 : Hid (Blk ((W5.setCell ⟨w.heap.size, 17, none⟩ (.int .u64 (fN : Int))).setCell ⟨w.heap.size, 18, none⟩ (.int .u64 (nv : Int))) (w.heap.size + 1 + 1) 103 zSt) := Lib.hid ((HR5.out.far (p := ⟨w.heap.size, 17, none⟩) (by simp <;> omega) _).far (p := ⟨w.heap.size, 18, none⟩) (by simp <;> omega) _)
    have HB6 : Hid (Below w.heap.size w ((W5.setCell ⟨w.heap.size, 17, none⟩ (.int .u64 (fN : Int))).setCell ⟨w.heap.size, 18, none⟩ (.int .u64 (nv : Int)))) := (HB5.out.setCell (by simp) _).setCell (by simp) _
    have HO6 := Lib.hid (own_chT HO5.out ((Ch.set_ (S := [w.heap.size]) (b := w.heap.size) (by simp) W5 17 (.int .u64 (fN : Int))).trans (Ch.set_ (S := [w.heap.size]) (b := w.heap.size) (by simp) _ 18 (.int .u64 (nv : Int)))) HX5.out.kdT (by decide))
    have r18 : ((W5.setCell ⟨w.heap.size, 17, none⟩ (.int .u64 (fN : Int))).setCell ⟨w.heap.size, 18, none⟩ (.int .u64 (nv : Int))).cell? ⟨w.heap.size, 18, none⟩ = some (.int .u64 (nv : Int)) := HX6.out.cell 18
    have r15 : ((W5.setCell ⟨w.heap.size, 17, none⟩ (.int .u64 (fN : Int))).setCell ⟨w.heap.size, 18, none⟩ (.int .u64 (nv : Int))).cell? ⟨w.heap.size, 15, none⟩ = some (.slice (some ⟨gg, 0, none⟩) (s.wins.length + 1) cap) := (HX6.out.cell 15).trans (won_cell15 _ _ _ _ _ _)
    have HMM : Hid (∀ W, Below ((W5.setCell ⟨w.heap.size, 17, none⟩ (.int .u64 (fN : Int))).setCell ⟨w.heap.size, 18, none⟩ (.int .u64 (nv : Int))).heap.size ((W5.setCell ⟨w.heap.size, 17, none⟩ (.int .u64 (fN : Int))).setCell ⟨w.heap.size, 18, none⟩ (.int .u64 (nv : Int))) W → (s.wonS x (some ⟨gg, 0, none⟩) cap fN nv).mem W) := Lib.hid (fun W hW => won_mem x (HM.out.bel (HB6.out.trans (hW.mono HB6.out.size))) (own_belT HO6.out hW))
    have HR := HR6
    have HB := HB6
    have hgW := HX6.out.lt
    clear HX5 HXW5 HR5 HB5 HO5 HR6 HB6 HO6
    by_cases hn : nv = 18446744073709551615
    ·obtain rfl : f = 9 := by rw [HE4.out, if_pos hn]
     have hn1 : (nv : Int) = 18446744073709551615 := by omega
     have d5 : ((nv : Int) == 18446744073709551615) = true := by rw [hn1]; rfl
     clear hn hn1 HE4 HMM
     go_wp2_with (refine wpList_store_part rfl 103 (.tmp 6) (.tmp 105) rfl (w.heap.size + 1 + 1) 0 HR.out zSt zSt (by rfl) (by rfl) (Nat.le_refl 20) infoSta zStO (zStV rfl) ?_; intro W6 hb6 hc6; have HT := Lib.hid hb6; have HC6 := Lib.hid hc6; clear hb6 hc6)
     refine bodyPost_ret (results_cell_row2 rfl _ HT.out rfl Tryz.underlying103 infoSta) rfl ?_
     exact ⟨HB.out.trans (HC6.out.below HB.out.size (by simp <;> omega)), .inl ⟨by decide, rfl⟩⟩
    ·have d5 : ((nv : Int) == 18446744073709551615) = false := beq_eq_false_iff_ne.2 (by omega)
     have HE5 : Hid (f = if 3 < s.wins.length + 1 then 9 else if xroomB (s.wonS x s.B s.d fN nv) r then 0 else 9) := Lib.hid (by rw [HE4.out, if_neg hn])
     clear hn HE4
     by_cases h3 : 3 < s.wins.length + 1
     ·obtain rfl : f = 9 := by rw [HE5.out, if_pos h3]
      have d6 : decide ((3 : Int) < ((s.wins.length + 1 : Nat) : Int)) = true := decide_eq_true (by omega)
      have d6a : decide ((3 : Int) < (s.wins.length : Int) + 1) = true := decide_eq_true (by omega)
      have d6b : decide (3 < s.wins.length + 1) = true := decide_eq_true h3
      have d6c : decide (2 < s.wins.length) = true := decide_eq_true (by omega)
      clear h3 HE5 HMM
      go_wp2_with (refine wpList_store_part rfl 103 (.tmp 6) (.tmp 105) rfl (w.heap.size + 1 + 1) 0 HR.out zSt zSt (by rfl) (by rfl) (Nat.le_refl 20) infoSta zStO (zStV rfl) ?_; intro W6 hb6 hc6; have HT := Lib.hid hb6; have HC6 := Lib.hid hc6; clear hb6 hc6)
      refine bodyPost_ret (results_cell_row2 rfl _ HT.out rfl Tryz.underlying103 infoSta) rfl ?_
      exact ⟨HB.out.trans (HC6.out.below HB.out.size (by simp <;> omega)), .inl ⟨by decide, rfl⟩⟩
     ·have d6 : decide ((3 : Int) < ((s.wins.length + 1 : Nat) : Int)) = false := decide_eq_false (by omega)
      have d6a : decide ((3 : Int) < (s.wins.length : Int) + 1) = false := decide_eq_false (by omega)
      have d6b : decide (3 < s.wins.length + 1) = false := decide_eq_false h3
      have d6c : decide (2 < s.wins.length) = false := decide_eq_false (by omega)
      have HE6 : Hid (f = if xroomB (s.wonS x (some ⟨gg, 0, none⟩) cap fN nv) r then 0 else 9) := Lib.hid (by rw [HE5.out, if_neg h3, HRB.out])
      have HRM := Lib.hid (xroom_any (s.wonS x (some ⟨gg, 0, none⟩) cap fN nv) r _ (HFF _ _).out hr (HMM.out _ (Below.refl _ _)))
      clear h3 HE5
      go_wp2_with (refine wpList_load_blkG (by rfl) 103 (.tmp 3) rfl w.heap.size 0 20 HX6.out (s.wonS x (some ⟨gg, 0, none⟩) cap fN nv).cs (by rfl) (st_ext _) Tryz.underlying103 infoSta (st_le _) ?_)
      refine HRM.out.mono ?_
      generalize xroomB (s.wonS x (some ⟨gg, 0, none⟩) cap fN nv) r = rb at HE6
      rintro e W7 ⟨rfl, hb⟩
      have HX := Lib.hid (HX6.out.bel hb)
      replace HR := Lib.hid (HR.out.bel hb)
      have HB7 := Lib.hid (HB.out.trans (hb.mono HB.out.size))
      have HM7 := Lib.hid (HMM.out _ hb)
      clear hb HX6 HB HMM r18 r15 d5 d6 d6a d6b d6c HRM
      have HB := HB7
      clear HB7
      cases rb with
      | false =>
       obtain rfl : f = 9 := HE6.out
       go_wp2_with (refine wpList_store_part rfl 103 (.tmp 6) (.tmp 105) rfl (w.heap.size + 1 + 1) 0 HR.out zSt zSt (by rfl) (by rfl) (Nat.le_refl 20) infoSta zStO (zStV rfl) ?_; intro W6 hb6 hc6; have HT := Lib.hid hb6; have HC6 := Lib.hid hc6; clear hb6 hc6)
       refine bodyPost_ret (results_cell_row2 rfl _ HT.out rfl Tryz.underlying103 infoSta) rfl ?_
       exact ⟨HB.out.trans (HC6.out.below HB.out.size (by simp <;> omega)), .inl ⟨by decide, rfl⟩⟩
      | true =>
       obtain rfl : f = 0 := HE6.out
       have HFG := HFF (some ⟨gg, 0, none⟩) cap
       go_upto_region 17 with fail
       go_wp2_with (refine wpList_load_blk rfl 103 (.tmp 3) rfl w.heap.size 0 20 HX.out (s.wonS x (some ⟨gg, 0, none⟩) cap fN nv).cs (by rfl) (st_ext _) Tryz.underlying103 infoSta (st_le _) ?_)
       refine (xown_any (s.wonS x (some ⟨gg, 0, none⟩) cap fN nv) _ HFG.out HM7.out).mono ?_
       rintro e W4 ⟨V, A2, c2, B2, d2, rfl, ho⟩
       have hval := ho.val
       subst hval
       have hb := ho.below
       have HM2 := Lib.hid (ho.ls.mono HB.out.size)
       replace HR := Lib.hid (HR.out.bel hb)
       replace HB := Lib.hid (HB.out.trans (hb.mono HB.out.size))
       clear ho hb
       go_wp2_with (refine wpList_store_part rfl 103 (.tmp 6) (.tmp 107) rfl (w.heap.size + 1 + 1) 0 HR.out ((s.wonS x (some ⟨gg, 0, none⟩) cap fN nv).lists A2 c2 B2 d2).cs ((s.wonS x (some ⟨gg, 0, none⟩) cap fN nv).lists A2 c2 B2 d2).cs (by rfl) (by rfl) (Nat.le_refl 20) infoSta (stcs_one _) (st_over _ rfl) ?_; intro W6 hb6 hc6; have HT := Lib.hid hb6; have HC6 := Lib.hid hc6; clear hb6 hc6)
       refine bodyPost_ret (results_cell_row2 rfl _ HT.out rfl Tryz.underlying103 infoSta) rfl ?_
       exact ⟨HB.out.trans (HC6.out.below HB.out.size (by simp <;> omega)), .inr ⟨rfl, A2, c2, B2, d2, rfl, (HM2.out.ch HC6.out HR.out.kdT).won⟩⟩
   ·go_simp
    replace HBX := Lib.hid (HBX.out.alloc HBX.out.size (.cells x.cs 122))
    have HNB : Hid (Blk ((X).alloc (.cells x.cs 122)) (X).heap.size 122 x.cs) := Blk.new _ _ _
    refine hK.out _ _ (Lib.hid (HXW.out.bel HBX.out)) (fun _ => ?_)
    clear hK K
    refine wpAnyH_genT fun X1 hX1 => ?_
    replace hX1 : X1 = (X).alloc (.cells x.cs 122) := hX1
    rw [← hX1] at HBX HNB
    clear hX1
    refine wpAnyH_ready (rs := [3]) (by kernel_rfl) (by simp) (AllReadyH.cons rfl (fun K hK => ?_) AllReadyH.nil)
    go_simp
    refine (clone_wn s.B s.wins s.d _ ((HSL.out.below HBX.out).more HBX.out.size) hwl HM.out.winsN).mono ?_
    rintro e X2 ⟨A2, c2, rfl, hO, hA2, hbl⟩
    have HO := Lib.hid (hO.mono HBX.out.size)
    replace HBX := Lib.hid (HBX.out.trans (hbl.mono HBX.out.size))
    have HBC := Lib.hid hbl
    clear hO hA2 hbl
    go_simp
    refine hK.out _ _ (Lib.hid (HXW.out.bel HBX.out)) (fun _ => ?_)
    clear hK K
    replace HNB := Lib.hid (HNB.out.bel HBC.out)
    have HNW := Lib.hid (World.news_of_block HNB.out)
    refine wpAnyH_ready (rs := [6]) (by kernel_rfl) (by simp) (AllReadyH.cons rfl (fun K hK => ?_) AllReadyH.nil)
    refine step_append_lies _ (by rfl) (.tmp 62) (.tmp 64) 49 (by rfl) X.heap.size 122 n0 _ 10 112 Tryz.underlying49 hni Hnz.out hw1 hw2 rfl (by omega) (.slice A2 s.wins.length c2) s.wins.length _ (by rfl) HO.out ⟨X.heap.size, 0, none⟩ 1 1 x.cl (by rfl) (by rfl) HNW.out (wncl_one x) (by omega) (by simp only [maxLen]; omega) (by omega) HBX.out.size _ rfl ?_
    intro gg cap W4 hown4 hgrow hat hlt4
    have hbase := own_base HO.out
    have HO4 := Lib.hid hown4
    replace HBX := Lib.hid (HBX.out.grown hgrow HBX.out.size hbase)
    clear hown4 hgrow hat hlt4 hbase HO HNB HNW
    refine hK.out _ _ (Lib.hid (HXW.out.bel HBX.out)) (fun hS4 => ?_)
    clear hK K
    refine wpAnyH_take (i := 7) (v := ?_) rfl (by kernel_rfl) (by kernel_rfl) (by kernel_rfl) (fun _ _ _ h => h) (Or.inl ⟨by rfl, ?_⟩) hS4 ?_
    rotate_left
    ·(intro w _; go_simp; try with_reducible rfl)
    refine wpAnyH_take (i := 8) (v := ?_) rfl (by kernel_rfl) (by kernel_rfl) (by kernel_rfl) (fun _ _ _ h => h) (Or.inl ⟨by rfl, ?_⟩) hS4 ?_
    rotate_left
    ·(intro w _; go_simp; try with_reducible rfl)
    refine wpAnyH_ready (rs := [9]) (by kernel_rfl) (by simp) (AllReadyH.cons rfl (fun K hK => ?_) AllReadyH.nil)
    have u15 : W4.cell? ⟨w.heap.size, 15, none⟩ = some (.slice s.B s.wins.length s.d) := (HX.out.bel HBX.out).cell 15
    have z15 : W4.frozen? ⟨w.heap.size, 15, none⟩ = false := (HX.out.bel HBX.out).frozen 15
    go_simp
    refine hK.out _ _ (Lib.hid ((HXW.out.bel HBX.out).far (p := ⟨w.heap.size, 15, none⟩) (by simp) _)) (fun _ => ?_)
    clear hK K u15 z15 hS4
    have HX5 : Hid (Blk (W4.setCell ⟨w.heap.size, 15, none⟩ (.slice (some ⟨gg, 0, none⟩) (s.wins.length + 1) cap)) w.heap.size 103 (s.wonS x (some ⟨gg, 0, none⟩) cap s.faces s.nominal).cs) := Lib.hid (by have q := (HX.out.bel HBX.out).set_ 15 (.slice (some ⟨gg, 0, none⟩) (s.wins.length + 1) cap); rw [won_set15 s x] at q; exact q)
    have HXW5 : Hid (Blk (W4.setCell ⟨w.heap.size, 15, none⟩ (.slice (some ⟨gg, 0, none⟩) (s.wins.length + 1) cap)) (w.heap.size + 1) 122 x.cs) := Lib.hid ((HXW.out.bel HBX.out).far (p := ⟨w.heap.size, 15, none⟩) (by simp) _)
    have HR5 : Hid (Blk (W4.setCell ⟨w.heap.size, 15, none⟩ (.slice (some ⟨gg, 0, none⟩) (s.wins.length + 1) cap)) (w.heap.size + 1 + 1) 103 zSt) := Lib.hid ((HR.out.bel HBX.out).far (p := ⟨w.heap.size, 15, none⟩) (by simp <;> omega) _)
    have HB5 : Hid (Below w.heap.size w (W4.setCell ⟨w.heap.size, 15, none⟩ (.slice (some ⟨gg, 0, none⟩) (s.wins.length + 1) cap))) := Lib.hid ((HB.out.trans (HBX.out.mono HB.out.size)).setCell (by simp) _)
    have HO5 := Lib.hid (own_chT HO4.out (Ch.set_ (S := [w.heap.size]) (b := w.heap.size) (by simp) W4 15 (.slice (some ⟨gg, 0, none⟩) (s.wins.length + 1) cap)) (HX.out.bel HBX.out).kdT (by decide))
    generalize W4.setCell ⟨w.heap.size, 15, none⟩ (.slice (some ⟨gg, 0, none⟩) (s.wins.length + 1) cap) = W5 at HX5 HXW5 HR5 HB5 HO5 ⊢
    refine wpAnyH_done (by kernel_rfl) ?_ _
    clear HO4 HX HXW HR HB HBX HSL
    have u17 : W5.cell? ⟨w.heap.size, 17, none⟩ = some (.int .u64 s.faces) := HX5.out.cell 17
    have z17 : W5.frozen? ⟨w.heap.size, 17, none⟩ = false := HX5.out.frozen 17
    have v2 : W5.cell? ⟨w.heap.size + 1, 2, none⟩ = some (.int .u64 x.t.face) := HXW5.out.cell 2
    go_wp2_with fail
    refine (HAD1 _).out.mono ?_
    rintro e w1 ⟨rfl, hq⟩
    rw [hq]
    clear hq w1
    go_wp2_with fail
    refine (HCA1 _).out.mono ?_
    rintro e w1 ⟨rfl, hq⟩
    rw [hq]
    clear hq w1
    have u18 : W5.cell? ⟨w.heap.size, 18, none⟩ = some (.int .u64 s.nominal) := HX5.out.cell 18
    have z18 : W5.frozen? ⟨w.heap.size, 18, none⟩ = false := HX5.out.frozen 18
    go_wp2_with fail
    refine (HAD2 _).out.mono ?_
    rintro e w1 ⟨rfl, hq⟩
    rw [hq]
    clear hq w1
    go_wp2_with fail
    refine (HCA2 _).out.mono ?_
    rintro e w1 ⟨rfl, hq⟩
    rw [hq]
    clear hq w1 HAD1 HAD2 HCA1 HCA2 v2
    have HX6 : Hid (Blk ((W5.setCell ⟨w.heap.size, 17, none⟩ (.int .u64 (fN : Int))).setCell ⟨w.heap.size, 18, none⟩ (.int .u64 (nv : Int))) w.heap.size 103 (s.wonS x (some ⟨gg, 0, none⟩) cap fN nv).cs) := Lib.hid ((HX5.out.set_ 17 (.int .u64 (fN : Int))).set_ 18 (.int .u64 (nv : Int)))
    have HR6 : Hid (Blk ((W5.setCell ⟨w.heap.size, 17, none⟩ (.int .u64 (fN : Int))).setCell ⟨w.heap.size, 18, none⟩ (.int .u64 (nv : Int))) (w.heap.size + 1 + 1) 103 zSt) := Lib.hid ((HR5.out.far (p := ⟨w.heap.size, 17, none⟩) (by simp <;> omega) _).far (p := ⟨w.heap.size, 18, none⟩) (by simp <;> omega) _)
    have HB6 : Hid (Below w.heap.size w ((W5.setCell ⟨w.heap.size, 17, none⟩ (.int .u64 (fN : Int))).setCell ⟨w.heap.size, 18, none⟩ (.int .u64 (nv : Int)))) := (HB5.out.setCell (by simp) _).setCell (by simp) _
    have HO6 := Lib.hid (own_chT HO5.out ((Ch.set_ (S := [w.heap.size]) (b := w.heap.size) (by simp) W5 17 (.int .u64 (fN : Int))).trans (Ch.set_ (S := [w.heap.size]) (b := w.heap.size) (by simp) _ 18 (.int .u64 (nv : Int)))) HX5.out.kdT (by decide))
    have r18 : ((W5.setCell ⟨w.heap.size, 17, none⟩ (.int .u64 (fN : Int))).setCell ⟨w.heap.size, 18, none⟩ (.int .u64 (nv : Int))).cell? ⟨w.heap.size, 18, none⟩ = some (.int .u64 (nv : Int)) := HX6.out.cell 18
    have r15 : ((W5.setCell ⟨w.heap.size, 17, none⟩ (.int .u64 (fN : Int))).setCell ⟨w.heap.size, 18, none⟩ (.int .u64 (nv : Int))).cell? ⟨w.heap.size, 15, none⟩ = some (.slice (some ⟨gg, 0, none⟩) (s.wins.length + 1) cap) := (HX6.out.cell 15).trans (won_cell15 _ _ _ _ _ _)
    have HMM : Hid (∀ W, Below ((W5.setCell ⟨w.heap.size, 17, none⟩ (.int .u64 (fN : Int))).setCell ⟨w.heap.size, 18, none⟩ (.int .u64 (nv : Int))).heap.size ((W5.setCell ⟨w.heap.size, 17, none⟩ (.int .u64 (fN : Int))).setCell ⟨w.heap.size, 18, none⟩ (.int .u64 (nv : Int))) W → (s.wonS x (some ⟨gg, 0, none⟩) cap fN nv).mem W) := Lib.hid (fun W hW => won_mem x (HM.out.bel (HB6.out.trans (hW.mono HB6.out.size))) (own_belT HO6.out hW))
    have HR := HR6
    have HB := HB6
    have hgW := HX6.out.lt
    clear HX5 HXW5 HR5 HB5 HO5 HR6 HB6 HO6
    by_cases hn : nv = 18446744073709551615
    ·obtain rfl : f = 9 := by rw [HE4.out, if_pos hn]
     have hn1 : (nv : Int) = 18446744073709551615 := by omega
     have d5 : ((nv : Int) == 18446744073709551615) = true := by rw [hn1]; rfl
     clear hn hn1 HE4 HMM
     go_wp2_with (refine wpList_store_part rfl 103 (.tmp 6) (.tmp 105) rfl (w.heap.size + 1 + 1) 0 HR.out zSt zSt (by rfl) (by rfl) (Nat.le_refl 20) infoSta zStO (zStV rfl) ?_; intro W6 hb6 hc6; have HT := Lib.hid hb6; have HC6 := Lib.hid hc6; clear hb6 hc6)
     refine bodyPost_ret (results_cell_row2 rfl _ HT.out rfl Tryz.underlying103 infoSta) rfl ?_
     exact ⟨HB.out.trans (HC6.out.below HB.out.size (by simp <;> omega)), .inl ⟨by decide, rfl⟩⟩
    ·have d5 : ((nv : Int) == 18446744073709551615) = false := beq_eq_false_iff_ne.2 (by omega)
     have HE5 : Hid (f = if 3 < s.wins.length + 1 then 9 else if xroomB (s.wonS x s.B s.d fN nv) r then 0 else 9) := Lib.hid (by rw [HE4.out, if_neg hn])
     clear hn HE4
     by_cases h3 : 3 < s.wins.length + 1
     ·obtain rfl : f = 9 := by rw [HE5.out, if_pos h3]
      have d6 : decide ((3 : Int) < ((s.wins.length + 1 : Nat) : Int)) = true := decide_eq_true (by omega)
      have d6a : decide ((3 : Int) < (s.wins.length : Int) + 1) = true := decide_eq_true (by omega)
      have d6b : decide (3 < s.wins.length + 1) = true := decide_eq_true h3
      have d6c : decide (2 < s.wins.length) = true := decide_eq_true (by omega)
      clear h3 HE5 HMM
      go_wp2_with (refine wpList_store_part rfl 103 (.tmp 6) (.tmp 105) rfl (w.heap.size + 1 + 1) 0 HR.out zSt zSt (by rfl) (by rfl) (Nat.le_refl 20) infoSta zStO (zStV rfl) ?_; intro W6 hb6 hc6; have HT := Lib.hid hb6; have HC6 := Lib.hid hc6; clear hb6 hc6)
      refine bodyPost_ret (results_cell_row2 rfl _ HT.out rfl Tryz.underlying103 infoSta) rfl ?_
      exact ⟨HB.out.trans (HC6.out.below HB.out.size (by simp <;> omega)), .inl ⟨by decide, rfl⟩⟩
     ·have d6 : decide ((3 : Int) < ((s.wins.length + 1 : Nat) : Int)) = false := decide_eq_false (by omega)
      have d6a : decide ((3 : Int) < (s.wins.length : Int) + 1) = false := decide_eq_false (by omega)
      have d6b : decide (3 < s.wins.length + 1) = false := decide_eq_false h3
      have d6c : decide (2 < s.wins.length) = false := decide_eq_false (by omega)
      have HE6 : Hid (f = if xroomB (s.wonS x (some ⟨gg, 0, none⟩) cap fN nv) r then 0 else 9) := Lib.hid (by rw [HE5.out, if_neg h3, HRB.out])
      have HRM := Lib.hid (xroom_any (s.wonS x (some ⟨gg, 0, none⟩) cap fN nv) r _ (HFF _ _).out hr (HMM.out _ (Below.refl _ _)))
      clear h3 HE5
      go_wp2_with (refine wpList_load_blkG (by rfl) 103 (.tmp 3) rfl w.heap.size 0 20 HX6.out (s.wonS x (some ⟨gg, 0, none⟩) cap fN nv).cs (by rfl) (st_ext _) Tryz.underlying103 infoSta (st_le _) ?_)
      refine HRM.out.mono ?_
      generalize xroomB (s.wonS x (some ⟨gg, 0, none⟩) cap fN nv) r = rb at HE6
      rintro e W7 ⟨rfl, hb⟩
      have HX := Lib.hid (HX6.out.bel hb)
      replace HR := Lib.hid (HR.out.bel hb)
      have HB7 := Lib.hid (HB.out.trans (hb.mono HB.out.size))
      have HM7 := Lib.hid (HMM.out _ hb)
      clear hb HX6 HB HMM r18 r15 d5 d6 d6a d6b d6c HRM
      have HB := HB7
      clear HB7
      cases rb with
      | false =>
       obtain rfl : f = 9 := HE6.out
       go_wp2_with (refine wpList_store_part rfl 103 (.tmp 6) (.tmp 105) rfl (w.heap.size + 1 + 1) 0 HR.out zSt zSt (by rfl) (by rfl) (Nat.le_refl 20) infoSta zStO (zStV rfl) ?_; intro W6 hb6 hc6; have HT := Lib.hid hb6; have HC6 := Lib.hid hc6; clear hb6 hc6)
       refine bodyPost_ret (results_cell_row2 rfl _ HT.out rfl Tryz.underlying103 infoSta) rfl ?_
       exact ⟨HB.out.trans (HC6.out.below HB.out.size (by simp <;> omega)), .inl ⟨by decide, rfl⟩⟩
      | true =>
       obtain rfl : f = 0 := HE6.out
       have HFG := HFF (some ⟨gg, 0, none⟩) cap
       go_upto_region 17 with fail
       go_wp2_with (refine wpList_load_blk rfl 103 (.tmp 3) rfl w.heap.size 0 20 HX.out (s.wonS x (some ⟨gg, 0, none⟩) cap fN nv).cs (by rfl) (st_ext _) Tryz.underlying103 infoSta (st_le _) ?_)
       refine (xown_any (s.wonS x (some ⟨gg, 0, none⟩) cap fN nv) _ HFG.out HM7.out).mono ?_
       rintro e W4 ⟨V, A2, c2, B2, d2, rfl, ho⟩
       have hval := ho.val
       subst hval
       have hb := ho.below
       have HM2 := Lib.hid (ho.ls.mono HB.out.size)
       replace HR := Lib.hid (HR.out.bel hb)
       replace HB := Lib.hid (HB.out.trans (hb.mono HB.out.size))
       clear ho hb
       go_wp2_with (refine wpList_store_part rfl 103 (.tmp 6) (.tmp 107) rfl (w.heap.size + 1 + 1) 0 HR.out ((s.wonS x (some ⟨gg, 0, none⟩) cap fN nv).lists A2 c2 B2 d2).cs ((s.wonS x (some ⟨gg, 0, none⟩) cap fN nv).lists A2 c2 B2 d2).cs (by rfl) (by rfl) (Nat.le_refl 20) infoSta (stcs_one _) (st_over _ rfl) ?_; intro W6 hb6 hc6; have HT := Lib.hid hb6; have HC6 := Lib.hid hc6; clear hb6 hc6)
       refine bodyPost_ret (results_cell_row2 rfl _ HT.out rfl Tryz.underlying103 infoSta) rfl ?_
       exact ⟨HB.out.trans (HC6.out.below HB.out.size (by simp <;> omega)), .inr ⟨rfl, A2, c2, B2, d2, rfl, (HM2.out.ch HC6.out HR.out.kdT).won⟩⟩
  ·go_simp
   replace HBX := Lib.hid (HBX.out.alloc HBX.out.size (.cells x.cs 122))
   have HNB : Hid (Blk ((X).alloc (.cells x.cs 122)) (X).heap.size 122 x.cs) := Blk.new _ _ _
   refine hK.out _ _ (Lib.hid (HXW.out.bel HBX.out)) (fun _ => ?_)
   clear hK K
   refine wpAnyH_genT fun X1 hX1 => ?_
   replace hX1 : X1 = (X).alloc (.cells x.cs 122) := hX1
   rw [← hX1] at HBX HNB
   clear hX1
   refine wpAnyH_ready (rs := [2]) (by kernel_rfl) (by simp) (AllReadyH.cons rfl (fun K hK => ?_) AllReadyH.nil)
   have u15 : (X1).cell? ⟨w.heap.size, 15, none⟩ = some (.slice s.B s.wins.length s.d) := (HX.out.bel HBX.out).cell 15
   go_simp
   refine hK.out _ _ (Lib.hid (HXW.out.bel HBX.out)) (fun _ => ?_)
   clear hK K u15
   refine wpAnyH_ready (rs := [3]) (by kernel_rfl) (by simp) (AllReadyH.cons rfl (fun K hK => ?_) AllReadyH.nil)
   go_simp
   refine (clone_wn s.B s.wins s.d _ ((HSL.out.below HBX.out).more HBX.out.size) hwl HM.out.winsN).mono ?_
   rintro e X2 ⟨A2, c2, rfl, hO, hA2, hbl⟩
   have HO := Lib.hid (hO.mono HBX.out.size)
   replace HBX := Lib.hid (HBX.out.trans (hbl.mono HBX.out.size))
   have HBC := Lib.hid hbl
   clear hO hA2 hbl
   go_simp
   refine hK.out _ _ (Lib.hid (HXW.out.bel HBX.out)) (fun _ => ?_)
   clear hK K
   replace HNB := Lib.hid (HNB.out.bel HBC.out)
   have HNW := Lib.hid (World.news_of_block HNB.out)
   refine wpAnyH_ready (rs := [6]) (by kernel_rfl) (by simp) (AllReadyH.cons rfl (fun K hK => ?_) AllReadyH.nil)
   refine step_append_lies _ (by rfl) (.tmp 62) (.tmp 64) 49 (by rfl) X.heap.size 122 n0 _ 10 112 Tryz.underlying49 hni Hnz.out hw1 hw2 rfl (by omega) (.slice A2 s.wins.length c2) s.wins.length _ (by rfl) HO.out ⟨X.heap.size, 0, none⟩ 1 1 x.cl (by rfl) (by rfl) HNW.out (wncl_one x) (by omega) (by simp only [maxLen]; omega) (by omega) HBX.out.size _ rfl ?_
   intro gg cap W4 hown4 hgrow hat hlt4
   have hbase := own_base HO.out
   have HO4 := Lib.hid hown4
   replace HBX := Lib.hid (HBX.out.grown hgrow HBX.out.size hbase)
   clear hown4 hgrow hat hlt4 hbase HO HNB HNW
   refine hK.out _ _ (Lib.hid (HXW.out.bel HBX.out)) (fun hS4 => ?_)
   clear hK K
   refine wpAnyH_take (i := 7) (v := ?_) rfl (by kernel_rfl) (by kernel_rfl) (by kernel_rfl) (fun _ _ _ h => h) (Or.inl ⟨by rfl, ?_⟩) hS4 ?_
   rotate_left
   ·(intro w _; go_simp; try with_reducible rfl)
   refine wpAnyH_take (i := 8) (v := ?_) rfl (by kernel_rfl) (by kernel_rfl) (by kernel_rfl) (fun _ _ _ h => h) (Or.inl ⟨by rfl, ?_⟩) hS4 ?_
   rotate_left
   ·(intro w _; go_simp; try with_reducible rfl)
   refine wpAnyH_ready (rs := [9]) (by kernel_rfl) (by simp) (AllReadyH.cons rfl (fun K hK => ?_) AllReadyH.nil)
   have u15 : W4.cell? ⟨w.heap.size, 15, none⟩ = some (.slice s.B s.wins.length s.d) := (HX.out.bel HBX.out).cell 15
   have z15 : W4.frozen? ⟨w.heap.size, 15, none⟩ = false := (HX.out.bel HBX.out).frozen 15
   go_simp
   refine hK.out _ _ (Lib.hid ((HXW.out.bel HBX.out).far (p := ⟨w.heap.size, 15, none⟩) (by simp) _)) (fun _ => ?_)
   clear hK K u15 z15 hS4
   have HX5 : Hid (Blk (W4.setCell ⟨w.heap.size, 15, none⟩ (.slice (some ⟨gg, 0, none⟩) (s.wins.length + 1) cap)) w.heap.size 103 (s.wonS x (some ⟨gg, 0, none⟩) cap s.faces s.nominal).cs) := Lib.hid (by have q := (HX.out.bel HBX.out).set_ 15 (.slice (some ⟨gg, 0, none⟩) (s.wins.length + 1) cap); rw [won_set15 s x] at q; exact q)
   have HXW5 : Hid (Blk (W4.setCell ⟨w.heap.size, 15, none⟩ (.slice (some ⟨gg, 0, none⟩) (s.wins.length + 1) cap)) (w.heap.size + 1) 122 x.cs) := Lib.hid ((HXW.out.bel HBX.out).far (p := ⟨w.heap.size, 15, none⟩) (by simp) _)
   have HR5 : Hid (Blk (W4.setCell ⟨w.heap.size, 15, none⟩ (.slice (some ⟨gg, 0, none⟩) (s.wins.length + 1) cap)) (w.heap.size + 1 + 1) 103 zSt) := Lib.hid ((HR.out.bel HBX.out).far (p := ⟨w.heap.size, 15, none⟩) (by simp <;> omega) _)
   have HB5 : Hid (Below w.heap.size w (W4.setCell ⟨w.heap.size, 15, none⟩ (.slice (some ⟨gg, 0, none⟩) (s.wins.length + 1) cap))) := Lib.hid ((HB.out.trans (HBX.out.mono HB.out.size)).setCell (by simp) _)
   have HO5 := Lib.hid (own_chT HO4.out (Ch.set_ (S := [w.heap.size]) (b := w.heap.size) (by simp) W4 15 (.slice (some ⟨gg, 0, none⟩) (s.wins.length + 1) cap)) (HX.out.bel HBX.out).kdT (by decide))
   generalize W4.setCell ⟨w.heap.size, 15, none⟩ (.slice (some ⟨gg, 0, none⟩) (s.wins.length + 1) cap) = W5 at HX5 HXW5 HR5 HB5 HO5 ⊢
   refine wpAnyH_done (by kernel_rfl) ?_ _
   clear HO4 HX HXW HR HB HBX HSL
   have u17 : W5.cell? ⟨w.heap.size, 17, none⟩ = some (.int .u64 s.faces) := HX5.out.cell 17
   have z17 : W5.frozen? ⟨w.heap.size, 17, none⟩ = false := HX5.out.frozen 17
   have v2 : W5.cell? ⟨w.heap.size + 1, 2, none⟩ = some (.int .u64 x.t.face) := HXW5.out.cell 2
   go_wp2_with fail
   refine (HAD1 _).out.mono ?_
   rintro e w1 ⟨rfl, hq⟩
   rw [hq]
   clear hq w1
   go_wp2_with fail
   refine (HCA1 _).out.mono ?_
   rintro e w1 ⟨rfl, hq⟩
   rw [hq]
   clear hq w1
   have u18 : W5.cell? ⟨w.heap.size, 18, none⟩ = some (.int .u64 s.nominal) := HX5.out.cell 18
   have z18 : W5.frozen? ⟨w.heap.size, 18, none⟩ = false := HX5.out.frozen 18
   go_wp2_with fail
   refine (HAD2 _).out.mono ?_
   rintro e w1 ⟨rfl, hq⟩
   rw [hq]
   clear hq w1
   go_wp2_with fail
   refine (HCA2 _).out.mono ?_
   rintro e w1 ⟨rfl, hq⟩
   rw [hq]
   clear hq w1 HAD1 HAD2 HCA1 HCA2 v2
   have HX6 : Hid (Blk ((W5.setCell ⟨w.heap.size, 17, none⟩ (.int .u64 (fN : Int))).setCell ⟨w.heap.size, 18, none⟩ (.int .u64 (nv : Int))) w.heap.size 103 (s.wonS x (some ⟨gg, 0, none⟩) cap fN nv).cs) := Lib.hid ((HX5.out.set_ 17 (.int .u64 (fN : Int))).set_ 18 (.int .u64 (nv : Int)))
   have HR6 : Hid (Blk ((W5.setCell ⟨w.heap.size, 17, none⟩ (.int .u64 (fN : Int))).setCell ⟨w.heap.size, 18, none⟩ (.int .u64 (nv : Int))) (w.heap.size + 1 + 1) 103 zSt) := Lib.hid ((HR5.out.far (p := ⟨w.heap.size, 17, none⟩) (by simp <;> omega) _).far (p := ⟨w.heap.size, 18, none⟩) (by simp <;> omega) _)
   have HB6 : Hid (Below w.heap.size w ((W5.setCell ⟨w.heap.size, 17, none⟩ (.int .u64 (fN : Int))).setCell ⟨w.heap.size, 18, none⟩ (.int .u64 (nv : Int)))) := (HB5.out.setCell (by simp) _).setCell (by simp) _
   have HO6 := Lib.hid (own_chT HO5.out ((Ch.set_ (S := [w.heap.size]) (b := w.heap.size) (by simp) W5 17 (.int .u64 (fN : Int))).trans (Ch.set_ (S := [w.heap.size]) (b := w.heap.size) (by simp) _ 18 (.int .u64 (nv : Int)))) HX5.out.kdT (by decide))
   have r18 : ((W5.setCell ⟨w.heap.size, 17, none⟩ (.int .u64 (fN : Int))).setCell ⟨w.heap.size, 18, none⟩ (.int .u64 (nv : Int))).cell? ⟨w.heap.size, 18, none⟩ = some (.int .u64 (nv : Int)) := HX6.out.cell 18
   have r15 : ((W5.setCell ⟨w.heap.size, 17, none⟩ (.int .u64 (fN : Int))).setCell ⟨w.heap.size, 18, none⟩ (.int .u64 (nv : Int))).cell? ⟨w.heap.size, 15, none⟩ = some (.slice (some ⟨gg, 0, none⟩) (s.wins.length + 1) cap) := (HX6.out.cell 15).trans (won_cell15 _ _ _ _ _ _)
   have HMM : Hid (∀ W, Below ((W5.setCell ⟨w.heap.size, 17, none⟩ (.int .u64 (fN : Int))).setCell ⟨w.heap.size, 18, none⟩ (.int .u64 (nv : Int))).heap.size ((W5.setCell ⟨w.heap.size, 17, none⟩ (.int .u64 (fN : Int))).setCell ⟨w.heap.size, 18, none⟩ (.int .u64 (nv : Int))) W → (s.wonS x (some ⟨gg, 0, none⟩) cap fN nv).mem W) := Lib.hid (fun W hW => won_mem x (HM.out.bel (HB6.out.trans (hW.mono HB6.out.size))) (own_belT HO6.out hW))
   have HR := HR6
   have HB := HB6
   have hgW := HX6.out.lt
   clear HX5 HXW5 HR5 HB5 HO5 HR6 HB6 HO6
   by_cases hn : nv = 18446744073709551615
   ·obtain rfl : f = 9 := by rw [HE4.out, if_pos hn]
    have hn1 : (nv : Int) = 18446744073709551615 := by omega
    have d5 : ((nv : Int) == 18446744073709551615) = true := by rw [hn1]; rfl
    clear hn hn1 HE4 HMM
    go_wp2_with (refine wpList_store_part rfl 103 (.tmp 6) (.tmp 105) rfl (w.heap.size + 1 + 1) 0 HR.out zSt zSt (by rfl) (by rfl) (Nat.le_refl 20) infoSta zStO (zStV rfl) ?_; intro W6 hb6 hc6; have HT := Lib.hid hb6; have HC6 := Lib.hid hc6; clear hb6 hc6)
    refine bodyPost_ret (results_cell_row2 rfl _ HT.out rfl Tryz.underlying103 infoSta) rfl ?_
    exact ⟨HB.out.trans (HC6.out.below HB.out.size (by simp <;> omega)), .inl ⟨by decide, rfl⟩⟩
   ·have d5 : ((nv : Int) == 18446744073709551615) = false := beq_eq_false_iff_ne.2 (by omega)
    have HE5 : Hid (f = if 3 < s.wins.length + 1 then 9 else if xroomB (s.wonS x s.B s.d fN nv) r then 0 else 9) := Lib.hid (by rw [HE4.out, if_neg hn])
    clear hn HE4
    by_cases h3 : 3 < s.wins.length + 1
    ·obtain rfl : f = 9 := by rw [HE5.out, if_pos h3]
     have d6 : decide ((3 : Int) < ((s.wins.length + 1 : Nat) : Int)) = true := decide_eq_true (by omega)
     have d6a : decide ((3 : Int) < (s.wins.length : Int) + 1) = true := decide_eq_true (by omega)
     have d6b : decide (3 < s.wins.length + 1) = true := decide_eq_true h3
     have d6c : decide (2 < s.wins.length) = true := decide_eq_true (by omega)
     clear h3 HE5 HMM
     go_wp2_with (refine wpList_store_part rfl 103 (.tmp 6) (.tmp 105) rfl (w.heap.size + 1 + 1) 0 HR.out zSt zSt (by rfl) (by rfl) (Nat.le_refl 20) infoSta zStO (zStV rfl) ?_; intro W6 hb6 hc6; have HT := Lib.hid hb6; have HC6 := Lib.hid hc6; clear hb6 hc6)
     refine bodyPost_ret (results_cell_row2 rfl _ HT.out rfl Tryz.underlying103 infoSta) rfl ?_
     exact ⟨HB.out.trans (HC6.out.below HB.out.size (by simp <;> omega)), .inl ⟨by decide, rfl⟩⟩
    ·have d6 : decide ((3 : Int) < ((s.wins.length + 1 : Nat) : Int)) = false := decide_eq_false (by omega)
     have d6a : decide ((3 : Int) < (s.wins.length : Int) + 1) = false := decide_eq_false (by omega)
     have d6b : decide (3 < s.wins.length + 1) = false := decide_eq_false h3
     have d6c : decide (2 < s.wins.length) = false := decide_eq_false (by omega)
     have HE6 : Hid (f = if xroomB (s.wonS x (some ⟨gg, 0, none⟩) cap fN nv) r then 0 else 9) := Lib.hid (by rw [HE5.out, if_neg h3, HRB.out])
     have HRM := Lib.hid (xroom_any (s.wonS x (some ⟨gg, 0, none⟩) cap fN nv) r _ (HFF _ _).out hr (HMM.out _ (Below.refl _ _)))
     clear h3 HE5
     go_wp2_with (refine wpList_load_blkG (by rfl) 103 (.tmp 3) rfl w.heap.size 0 20 HX6.out (s.wonS x (some ⟨gg, 0, none⟩) cap fN nv).cs (by rfl) (st_ext _) Tryz.underlying103 infoSta (st_le _) ?_)
     refine HRM.out.mono ?_
     generalize xroomB (s.wonS x (some ⟨gg, 0, none⟩) cap fN nv) r = rb at HE6
     rintro e W7 ⟨rfl, hb⟩
     have HX := Lib.hid (HX6.out.bel hb)
     replace HR := Lib.hid (HR.out.bel hb)
     have HB7 := Lib.hid (HB.out.trans (hb.mono HB.out.size))
     have HM7 := Lib.hid (HMM.out _ hb)
     clear hb HX6 HB HMM r18 r15 d5 d6 d6a d6b d6c HRM
     have HB := HB7
     clear HB7
     cases rb with
     | false =>
      obtain rfl : f = 9 := HE6.out
      go_wp2_with (refine wpList_store_part rfl 103 (.tmp 6) (.tmp 105) rfl (w.heap.size + 1 + 1) 0 HR.out zSt zSt (by rfl) (by rfl) (Nat.le_refl 20) infoSta zStO (zStV rfl) ?_; intro W6 hb6 hc6; have HT := Lib.hid hb6; have HC6 := Lib.hid hc6; clear hb6 hc6)
      refine bodyPost_ret (results_cell_row2 rfl _ HT.out rfl Tryz.underlying103 infoSta) rfl ?_
      exact ⟨HB.out.trans (HC6.out.below HB.out.size (by simp <;> omega)), .inl ⟨by decide, rfl⟩⟩
     | true =>
      obtain rfl : f = 0 := HE6.out
      have HFG := HFF (some ⟨gg, 0, none⟩) cap
      go_upto_region 17 with fail
      go_wp2_with (refine wpList_load_blk rfl 103 (.tmp 3) rfl w.heap.size 0 20 HX.out (s.wonS x (some ⟨gg, 0, none⟩) cap fN nv).cs (by rfl) (st_ext _) Tryz.underlying103 infoSta (st_le _) ?_)
      refine (xown_any (s.wonS x (some ⟨gg, 0, none⟩) cap fN nv) _ HFG.out HM7.out).mono ?_
      rintro e W4 ⟨V, A2, c2, B2, d2, rfl, ho⟩
      have hval := ho.val
      subst hval
      have hb := ho.below
      have HM2 := Lib.hid (ho.ls.mono HB.out.size)
      replace HR := Lib.hid (HR.out.bel hb)
      replace HB := Lib.hid (HB.out.trans (hb.mono HB.out.size))
      clear ho hb
      go_wp2_with (refine wpList_store_part rfl 103 (.tmp 6) (.tmp 107) rfl (w.heap.size + 1 + 1) 0 HR.out ((s.wonS x (some ⟨gg, 0, none⟩) cap fN nv).lists A2 c2 B2 d2).cs ((s.wonS x (some ⟨gg, 0, none⟩) cap fN nv).lists A2 c2 B2 d2).cs (by rfl) (by rfl) (Nat.le_refl 20) infoSta (stcs_one _) (st_over _ rfl) ?_; intro W6 hb6 hc6; have HT := Lib.hid hb6; have HC6 := Lib.hid hc6; clear hb6 hc6)
      refine bodyPost_ret (results_cell_row2 rfl _ HT.out rfl Tryz.underlying103 infoSta) rfl ?_
      exact ⟨HB.out.trans (HC6.out.below HB.out.size (by simp <;> omega)), .inr ⟨rfl, A2, c2, B2, d2, rfl, (HM2.out.ch HC6.out HR.out.kdT).won⟩⟩
 ·have dw : (we != 0) = true := by simp [bne, beq_eq_false_iff_ne.2 hw]
  obtain rfl : f = we := by rw [HE3.out, if_pos hw]
  have H1 := Lib.hid hw
  clear hw hwe HE3
  go_wp2_with (refine wpList_store_part rfl 103 (.tmp 6) (.tmp 56) rfl (w.heap.size + 1 + 1) 0 HR.out zSt zSt (by rfl) (by rfl) (Nat.le_refl 20) infoSta zStO (zStV rfl) ?_; intro W6 hb6 hc6; have HT := Lib.hid hb6; have HC6 := Lib.hid hc6; clear hb6 hc6)
  refine bodyPost_ret (results_cell_row2 rfl _ HT.out rfl Tryz.underlying103 infoSta) rfl ?_
  exact ⟨HB.out.trans (HC6.out.below HB.out.size (by simp <;> omega)), .inl ⟨H1.out, rfl⟩⟩
end
section
open Go.RowKit Go.Maps
set_option maxRecDepth 100000 in
set_option maxHeartbeats 2000000 in
theorem xticket_any (s : St) (x : Wn) (r : Nat) (w : World) (hf : s.fit) (hw9 : s.wins.length ≤ 900) (hS : s.mem w) (hx : x.fit) (hr : r < 18446744073709551616) :
  Calls Tryz.prog 124 #[.agg s.cs, .agg x.cs, .int .u64 (r : Nat)] w (ChR (tickS s x) (ticE s x r) w) := by
 by_cases HNT' : s.closed = false ∧ nomE x.t.face x.t.wins x.t.many = 0 ∧ winsOk x.drawn x.t.wins x.t.many = true
 ·obtain ⟨hcl, h1, hwo⟩ := HNT'
  cases hb : ticB x with
  | true =>
   have e1 : ticE s x r = (if winE s x ≠ 0 then winE s x else if ((s.addw x).nom (ticV x)).nominal = 18446744073709551615 then 9 else if 3 < s.wins.length + 1 then 9 else if xroomB ((s.addw x).nom (ticV x)) r then 0 else 9) := by unfold ticE; rw [hcl, if_neg (by simp), if_neg (by simp [h1]), if_neg (by simp [hwo]), hb, if_pos rfl]
   have e2 : tickS s x = (s.addw x).nom (ticV x) := by unfold tickS; rw [hb, if_pos rfl]
   rw [e1, e2]
   exact tick_won s x r w hf hw9 hS hx hr hcl h1 hwo hb
  | false =>
   have e1 : ticE s x r = (if (s.nom (ticV x)).nominal = 18446744073709551615 then 9 else 0) := by unfold ticE; rw [hcl, if_neg (by simp), if_neg (by simp [h1]), if_neg (by simp [hwo]), hb, if_neg (by simp)]
   have e2 : tickS s x = s.nom (ticV x) := by unfold tickS; rw [hb, if_neg (by simp)]
   rw [e1, e2]
   exact tick_lost s x r w hf hw9 hS hx hr hcl h1 hwo hb
 have HN2 := Lib.hid HNT'
 clear HNT'
 have HX0 : Hid (∀ o, Blk (((w.alloc (.cells s.cs 103)).alloc (.cells x.cs 122)).alloc o) w.heap.size 103 s.cs) := Lib.hid (fun o => ((Blk.new w _ _).alloc _).alloc o)
 have HW0 : Hid (∀ o, Blk (((w.alloc (.cells s.cs 103)).alloc (.cells x.cs 122)).alloc o) (w.heap.size + 1) 122 x.cs) := Lib.hid (fun o => Blk.alloc (Blk.newAt (by simp)) o)
 have HR : Hid (Blk (((w.alloc (.cells s.cs 103)).alloc (.cells x.cs 122)).alloc (.cells zSt 103)) (w.heap.size + 1 + 1) 103 zSt) := Blk.newAt (by simp)
 have HB : Hid (Below w.heap.size w (((w.alloc (.cells s.cs 103)).alloc (.cells x.cs 122)).alloc (.cells zSt 103))) := (((Below.refl _ _).alloc (Nat.le_refl _) _).alloc (by simp) _).alloc (by simp <;> omega) _
 have c19 : ∀ o, (((w.alloc (.cells s.cs 103)).alloc (.cells x.cs 122)).alloc o).cell? ⟨w.heap.size, 19, none⟩ = some (.bool s.closed) := fun o => (HX0.out o).cell 19
 have e2 : ∀ o, (((w.alloc (.cells s.cs 103)).alloc (.cells x.cs 122)).alloc o).cell? ⟨w.heap.size + 1, 2, none⟩ = some (.int .u64 x.t.face) := fun o => (HW0.out o).cell 2
 have e3 : ∀ o, (((w.alloc (.cells s.cs 103)).alloc (.cells x.cs 122)).alloc o).cell? ⟨w.heap.size + 1, 3, none⟩ = some (.int .u64 x.t.wins) := fun o => (HW0.out o).cell 3
 have e4 : ∀ o, (((w.alloc (.cells s.cs 103)).alloc (.cells x.cs 122)).alloc o).cell? ⟨w.heap.size + 1, 4, none⟩ = some (.int .u64 x.t.many) := fun o => (HW0.out o).cell 4
 have e6 : ∀ o, (((w.alloc (.cells s.cs 103)).alloc (.cells x.cs 122)).alloc o).cell? ⟨w.heap.size + 1, 6, none⟩ = some (.int .u64 x.t.cl) := fun o => (HW0.out o).cell 6
 have e9 : ∀ o, (((w.alloc (.cells s.cs 103)).alloc (.cells x.cs 122)).alloc o).cell? ⟨w.heap.size + 1, 9, none⟩ = some (.int .u64 x.drawn) := fun o => (HW0.out o).cell 9
 have HNO := fun W => Lib.hid (nominal_gen x.t.face x.t.wins x.t.many W hx.face hx.wins hx.many)
 have hv6 : ticV x < 18446744073709551616 := nomV_lt _ _ _ hx.face
 have hface := hx.face
 have hfac6 := hf.faces
 have hnom6 := hf.nominal
 have HM := Lib.hid hS
 have HF := Lib.hid hf
 have HE : Hid (ticE s x r = if s.closed then 8
   else if nomE x.t.face x.t.wins x.t.many ≠ 0 then nomE x.t.face x.t.wins x.t.many
   else if winsOk x.drawn x.t.wins x.t.many = false then 1
   else if ticB x then
    (if winE s x ≠ 0 then winE s x else if ((s.addw x).nom (ticV x)).nominal = 18446744073709551615 then 9 else if 3 < s.wins.length + 1 then 9 else if xroomB ((s.addw x).nom (ticV x)) r then 0 else 9)
   else (if (s.nom (ticV x)).nominal = 18446744073709551615 then 9 else 0)) := rfl
 have HTS : Hid (tickS s x = if ticB x then (s.addw x).nom (ticV x) else s.nom (ticV x)) := rfl
 have hmm6 := hx.many
 have hcl6 := hx.cl
 have HWO := fun W h => Lib.hid (wins_ok x.drawn x.t.cl x.t.wins x.t.many W hcl6 h)
 have HWB : Hid (winsB x.drawn x.t.cl x.t.wins x.t.many = ticB x) := rfl
 rw [HWB.out] at HWO
 have HWX := fun W h => Lib.hid (wins_no x.drawn x.t.cl x.t.wins x.t.many W hmm6 h)
 have HVV : Hid (nomV x.t.face x.t.wins x.t.many = ticV x) := rfl
 rw [HVV.out] at HNO
 generalize nomE x.t.face x.t.wins x.t.many = ne at HNO HE HN2
 generalize winsOk x.drawn x.t.wins x.t.many = wo at HWO HWX HE HN2
 generalize ticE s x r = f at HE ⊢
 generalize tickS s x = S' at HTS ⊢
 clear hf hS hx HWB HVV hmm6 hcl6
 generalize s.closed = cl at c19 HE HN2
 cases cl with
 | true =>
  obtain rfl : f = 8 := HE.out
  clear HE HNO HN2  HWO HWX e2 e3 e4 e6 e9
  go_enter Tryz.func124, Tryz.ntmps124
  go_wp2_with (refine wpList_store_part rfl 103 (.tmp 6) (.tmp 13) rfl (w.heap.size + 1 + 1) 0 HR.out zSt zSt (by rfl) (by rfl) (Nat.le_refl 20) infoSta zStO (zStV rfl) ?_; intro W6 hb6 hc6; have HT := Lib.hid hb6; have HC6 := Lib.hid hc6; clear hb6 hc6)
  refine bodyPost_ret (results_cell_row2 rfl _ HT.out rfl Tryz.underlying103 infoSta) rfl ?_
  exact ⟨HB.out.trans (HC6.out.below HB.out.size (by simp <;> omega)), .inl ⟨by decide, rfl⟩⟩
 | false =>
  by_cases h1 : ne = 0
  ·have d1 : (ne != 0) = false := by simp [h1]
   have HE1 : Hid (f = if wo = false then 1 else if ticB x then
    (if winE s x ≠ 0 then winE s x else if ((s.addw x).nom (ticV x)).nominal = 18446744073709551615 then 9 else if 3 < s.wins.length + 1 then 9 else if xroomB ((s.addw x).nom (ticV x)) r then 0 else 9)
    else (if (s.nom (ticV x)).nominal = 18446744073709551615 then 9 else 0)) := Lib.hid (by rw [HE.out, if_neg (by simp), if_neg (by simp [h1])])
   have H1E := Lib.hid h1
   clear h1 HE
   cases wo with
   | false =>
    have HW1 := fun W => HWX W rfl
    obtain rfl : f = 1 := by rw [HE1.out, if_pos rfl]
    clear HWX HWO HE1 HN2
    go_enter Tryz.func124, Tryz.ntmps124
    go_wp2_with fail
    refine (HNO _).out.mono ?_
    rintro e w1 ⟨rfl, rfl⟩
    go_wp2_with fail
    refine (HW1 _).out.mono ?_
    rintro e w1 ⟨rfl, rfl⟩
    go_wp2_with (refine wpList_store_part rfl 103 (.tmp 6) (.tmp 56) rfl (w.heap.size + 1 + 1) 0 HR.out zSt zSt (by rfl) (by rfl) (Nat.le_refl 20) infoSta zStO (zStV rfl) ?_; intro W6 hb6 hc6; have HT := Lib.hid hb6; have HC6 := Lib.hid hc6; clear hb6 hc6)
    refine bodyPost_ret (results_cell_row2 rfl _ HT.out rfl Tryz.underlying103 infoSta) rfl ?_
    exact ⟨HB.out.trans (HC6.out.below HB.out.size (by simp <;> omega)), .inl ⟨by decide, rfl⟩⟩
   | true => exact absurd ⟨rfl, H1E.out, rfl⟩ HN2.out
  ·have d1 : (ne != 0) = true := by simp [bne, beq_eq_false_iff_ne.2 h1]
   obtain rfl : f = ne := by rw [HE.out, if_neg (by simp), if_pos h1]
   have H1 := Lib.hid h1
   clear h1 HE  HWO HWX
   go_enter Tryz.func124, Tryz.ntmps124
   go_wp2_with fail
   refine (HNO _).out.mono ?_
   rintro e w1 ⟨rfl, rfl⟩
   go_wp2_with (refine wpList_store_part rfl 103 (.tmp 6) (.tmp 29) rfl (w.heap.size + 1 + 1) 0 HR.out zSt zSt (by rfl) (by rfl) (Nat.le_refl 20) infoSta zStO (zStV rfl) ?_; intro W6 hb6 hc6; have HT := Lib.hid hb6; have HC6 := Lib.hid hc6; clear hb6 hc6)
   refine bodyPost_ret (results_cell_row2 rfl _ HT.out rfl Tryz.underlying103 infoSta) rfl ?_
   exact ⟨HB.out.trans (HC6.out.below HB.out.size (by simp <;> omega)), .inl ⟨H1.out, rfl⟩⟩
end
section
open Go.RowKit Go.Maps
def sameP (a b : En) : Bool := decide (a.tx = b.tx) && decide (a.out = b.out)
set_option maxRecDepth 100000 in
set_option maxHeartbeats 1000000 in
theorem moresame_any (px : Nat) (x y : En) (w : World) (hx : Blk w px 89 x.cs) :
  Calls Tryz.prog 157 (#[.agg y.cs] ++ #[.pointer (some ⟨px, 0, none⟩)]) w fun e w' => e = .returned (.bool (sameP y x)) ∧ Below w.heap.size w w' := by
 have hlt := hx.lt
 have HX := Lib.hid (Blk.alloc hx (.cells y.cs 89))
 have HY : Hid (Blk (w.alloc (.cells y.cs 89)) w.heap.size 89 y.cs) := Blk.new _ _ _
 have hq : sameP y x = (decide (y.tx = x.tx) && decide (y.out = x.out)) := rfl
 rw [hq]
 have hb := toList_beq y.tx x.tx
 show Calls _ _ #[.agg y.cs, .pointer (some ⟨px, 0, none⟩)] _ _
 clear hx hq
 by_cases t1 : y.tx.toList = x.tx.toList
 ·have e1 : y.tx = x.tx := by rw [show (y.tx.toList == x.tx.toList) = true by rw [t1]; exact beq_self_eq_true _] at hb; exact of_decide_eq_true hb.symm
  by_cases t2 : y.out = x.out
  ·rw [decide_eq_true e1, decide_eq_true t2]
   clear hb e1
   go_enter Tryz.func157, Tryz.ntmps157
   go_wp2_with (first
    | (refine wpList_load_blk rfl 57 (.tmp 4) rfl w.heap.size 0 2 HY.out #[.string y.tx, .int .i64 y.out] (by rfl) (by rfl) Tryz.underlying57 infoPnt (by show 2 ≤ 11; omega) ?_)
    | (refine wpList_load_blk rfl 57 (.tmp 6) rfl px 0 2 HX.out #[.string x.tx, .int .i64 x.out] (by rfl) (by rfl) Tryz.underlying57 infoPnt (by show 2 ≤ 11; omega) ?_))
   all_goals
    first
     | contradiction
     | (go_ret; exact ⟨rfl, (Below.refl _ _).alloc (Nat.le_refl _) _⟩)
  ·rw [decide_eq_true e1, decide_eq_false t2]
   clear hb e1
   go_enter Tryz.func157, Tryz.ntmps157
   go_wp2_with (first
    | (refine wpList_load_blk rfl 57 (.tmp 4) rfl w.heap.size 0 2 HY.out #[.string y.tx, .int .i64 y.out] (by rfl) (by rfl) Tryz.underlying57 infoPnt (by show 2 ≤ 11; omega) ?_)
    | (refine wpList_load_blk rfl 57 (.tmp 6) rfl px 0 2 HX.out #[.string x.tx, .int .i64 x.out] (by rfl) (by rfl) Tryz.underlying57 infoPnt (by show 2 ≤ 11; omega) ?_))
   all_goals
    first
     | contradiction
     | (go_ret; exact ⟨rfl, (Below.refl _ _).alloc (Nat.le_refl _) _⟩)
 ·have e1 : ¬ y.tx = x.tx := fun e => t1 (by rw [e])
  rw [decide_eq_false e1]
  clear hb e1
  go_enter Tryz.func157, Tryz.ntmps157
  go_wp2_with (first
   | (refine wpList_load_blk rfl 57 (.tmp 4) rfl w.heap.size 0 2 HY.out #[.string y.tx, .int .i64 y.out] (by rfl) (by rfl) Tryz.underlying57 infoPnt (by show 2 ≤ 11; omega) ?_)
   | (refine wpList_load_blk rfl 57 (.tmp 6) rfl px 0 2 HX.out #[.string x.tx, .int .i64 x.out] (by rfl) (by rfl) Tryz.underlying57 infoPnt (by show 2 ≤ 11; omega) ?_))
  all_goals
   first
    | contradiction
    | (go_ret; exact ⟨rfl, (Below.refl _ _).alloc (Nat.le_refl _) _⟩)
set_option maxRecDepth 100000 in
set_option maxHeartbeats 1000000 in
theorem index_en (px : Nat) (A : Option Addr) (l : List En) (c : Nat) (q : En → Bool) (w : World) (hS : Sl w w.heap.size 11 En.cl A l) (hl : l.length ≤ 1000000)
  (HF : ∀ W, Below w.heap.size w W → ∀ x ∈ l, Calls Tryz.prog 157 (#[.agg x.cs] ++ #[.pointer (some ⟨px, 0, none⟩)]) W fun e w' => e = .returned (.bool (q x)) ∧ Below W.heap.size W w') :
  Calls Tryz.prog 189 #[.slice A l.length c, .func (Fn.func 157) #[] #[.pointer (some ⟨px, 0, none⟩)]] w fun e w' => e = .returned (.int .i64 (fIdx q l)) ∧ Below w.heap.size w w' := by
 have HS := Lib.hid hS
 have HFF := Lib.hid HF
 clear hS HF
 go_enter Tryz.func189, Tryz.ntmps189
 go_wp2_with fail
 go_loopw [8] (fun i wr => ∃ k : Nat, k ≤ l.length ∧ i = .int .i64 k ∧ Hid ((l.take k).any q = false) ∧ Hid (Below w.heap.size w wr)) (fun i _ => l.length - (intOf i).toNat)
 case atStart => exact ⟨0, Nat.zero_le _, rfl, Lib.hid rfl, Lib.hid (Below.refl _ _)⟩
 case round =>
  obtain ⟨k, hk, rfl, HT, HB⟩ := hrel
  have hz := HB.out.size
  by_cases hlt : k < l.length
  ·obtain ⟨ab, off, rfl, hbB, hc⟩ := (HS.out.below HB.out).at_ hlt
   have HC1 := HFF.out wr HB.out _ (List.getElem_mem hlt)
   have HTS : Hid ((l.take (k + 1)).any q = ((l.take k).any q || q l[k])) := by
    show _ = _
    rw [List.take_succ_eq_append_getElem hlt, List.any_append]
    simp
   have HIX := Lib.hid (fIdx_at q l k hlt HT.out)
   generalize l[k] = x at hc HC1 HTS HIX
   have HCC := Lib.hid hc
   have HCL := Lib.hid HC1
   clear hc HC1
   go_wp2_with (refine wpList_load_en rfl (.tmp 14) rfl ab (off + k * 11) (by rfl) x HCC.out ?_)
   refine HCL.out.mono ?_
   rintro e W1 ⟨rfl, hb⟩
   have HB1 := Lib.hid (HB.out.trans (hb.mono hz))
   clear hb HCL
   generalize q x = b at HTS HIX ⊢
   cases b with
   | true =>
    have HI1 := Lib.hid (HIX.out rfl)
    clear HIX HTS
    go_wp2_with fail
    go_ret
    exact ⟨by rw [HI1.out]; rfl, HB1.out⟩
   | false =>
    have HT1 : Hid ((l.take (k + 1)).any q = false) := Lib.hid (by rw [HTS.out, HT.out]; rfl)
    clear HIX HTS
    go_wp2_with fail
    go_roundw
    case rel => exact ⟨k + 1, by omega, by go_num, HT1, HB1⟩
    case measure => simp [intOf]; omega
  ·have hkl : k = l.length := by omega
   subst hkl
   have HE := Lib.hid (fIdx_none q l (by rw [List.take_length] at HT; exact HT.out))
   go_wp2_with fail
   go_ret
   exact ⟨by rw [HE.out]; rfl, HB.out⟩
set_option maxRecDepth 100000 in
theorem contains_en (px : Nat) (A : Option Addr) (l : List En) (c : Nat) (q : En → Bool) (w : World) (hS : Sl w w.heap.size 11 En.cl A l) (hl : l.length ≤ 1000000)
  (HF : ∀ W, Below w.heap.size w W → ∀ x ∈ l, Calls Tryz.prog 157 (#[.agg x.cs] ++ #[.pointer (some ⟨px, 0, none⟩)]) W fun e w' => e = .returned (.bool (q x)) ∧ Below W.heap.size W w') :
  Calls Tryz.prog 158 #[.slice A l.length c, .func (Fn.func 157) #[] #[.pointer (some ⟨px, 0, none⟩)]] w fun e w' => e = .returned (.bool (l.any q)) ∧ Below w.heap.size w w' := by
 have HI := Lib.hid (index_en px A l c q w hS hl HF)
 have HD := Lib.hid (fIdx_any q l)
 generalize fIdx q l = z at HI HD
 generalize l.any q = b at HD ⊢
 clear hS HF
 have hd : decide ((0 : Int) ≤ z) = b := HD.out
 clear HD
 go_enter Tryz.func158, Tryz.ntmps158
 go_wp2_with fail
 refine HI.out.mono ?_
 rintro e W1 ⟨rfl, hb⟩
 have HB := Lib.hid hb
 clear hb HI
 go_wp2
 go_ret
 exact ⟨rfl, HB.out⟩
def mustB (s : St) (e : En) (fb : Bool) : Bool := decide (e.o.kind = 3) && fb && decide (e.o.of_ = s.name) && decide (e.o.key = s.lock.o.key) && decide (e.o.gate = s.lock.o.gate) && decide (e.o.ex = s.lock.o.ex)
def moreE (s : St) (e : En) (fb : Bool) : Int :=
 if s.closed then 8 else if mustB s e fb = false then 13 else if sameP s.lock e || s.tops.any (fun y => sameP y e) then 7 else if 3 ≤ s.tops.length then 9 else 0
def St.addtop (s : St) (e : En) : St := { s with tops := s.tops ++ [e] }
end
section
open Go.RowKit Go.Maps
theorem own_keptT {w w' : World} {base base' n n' size size' : Nat} {e e' : TypeId} {v v' : Value} {xs xs' : List Value} (h : w.ownsRow base e size v n xs) (h' : w.ownsRow base' e' size' v' n' xs') (hne : e ≠ e') (hg : w.grownBy w' v'.ownBlock) : w'.ownsRow base e size v n xs := by
 refine h.kept hg ?_
 cases hv : v.ownBlock with
 | none => exact .inl rfl
 | some g =>
  refine .inr fun hq => ?_
  obtain ⟨c, fz, h1⟩ := Lib.ownsRow_kind h g hv
  obtain ⟨c', fz', h2⟩ := Lib.ownsRow_kind h' g hq.symm
  rw [h1] at h2
  injection h2 with h2
  injection h2 with _ h2
  exact hne h2
theorem top_set11 (s : St) (e : En) (A2 : Option Addr) (c2 : Nat) (A5 : Option Addr) (c5 : Nat) (B : Option Addr) (d : Nat) : (s.lists A2 c2 B d).cs.setIfInBounds 11 (.slice A5 (s.tops.length + 1) c5) = ((s.addtop e).lists A5 c5 B d).cs := by
 show _ = St.cs { s with tops := s.tops ++ [e], A := A5, c := c5, B := B, d := d }
 unfold St.cs
 simp only [List.length_append, List.length_cons, List.length_nil, Nat.zero_add]
 rfl
theorem top_ls {s : St} {e : En} {N : Nat} {w : World} {A : Option Addr} {c : Nat} {B : Option Addr} {d : Nat} (h1 : w.ownsRow N 89 11 (.slice A (s.tops.length + 1) c) (s.tops.length + 1) (s.tops.flatMap En.cl ++ e.cl)) (h2 : w.ownsRow N 122 10 (.slice B s.wins.length d) s.wins.length (s.wins.flatMap Wn.cl)) (hn : B = none → d = 0) : LsAt (s.addtop e) N w A c B d := by
 have hl : (s.tops ++ [e]).length = s.tops.length + 1 := by simp
 have hf : (s.tops ++ [e]).flatMap En.cl = s.tops.flatMap En.cl ++ e.cl := by simp
 refine ⟨?_, h2, fun hA => ?_, hn⟩
 ·show w.ownsRow N 89 11 (.slice A (s.tops ++ [e]).length c) (s.tops ++ [e]).length ((s.tops ++ [e]).flatMap En.cl)
  rw [hl, hf]; exact h1
 ·subst hA; exact own_noneC h1
theorem ou_over (o : Ou) {cs : Array Value} (h : cs.size = 9) : over cs 0 o.cs.toList = o.cs := (over_full o.cs.toList cs (by rw [h]; rfl)).trans (Array.toArray_toList ..)
theorem infoOuC : (Tryz.prog.info? 81).map (·.size) = some 9 := by kernel_rfl
theorem en_part (e : En) : e.cs.extract 2 (2 + 9) = e.o.cs := by rfl
theorem st_part (s : St) : s.cs.extract 2 (2 + 9) = s.lock.o.cs := by rfl
theorem st_lock (s : St) : s.cs.extract 0 (0 + 11) = s.lock.cs := by rfl
set_option maxRecDepth 100000 in
set_option maxHeartbeats 2000000 in
theorem xmore_any (s : St) (e : En) (w : World) (hf : s.fit) (ht9 : s.tops.length ≤ 900) (hS : s.mem w) (hea : e.o.am < 18446744073709551616) (fb : Bool) (HFT : ∀ W, Calls Tryz.prog 83 #[.agg e.o.cs] W fun e' w' => e' = .returned (.bool fb) ∧ Below W.heap.size W w') :
  Calls Tryz.prog 96 #[.agg s.cs, .agg e.cs] w (ChR (s.addtop e) (moreE s e fb) w) := by
 have HX0 : Hid (∀ o, Blk (((w.alloc (.cells s.cs 103)).alloc (.cells e.cs 89)).alloc o) w.heap.size 103 s.cs) := Lib.hid (fun o => ((Blk.new w _ _).alloc _).alloc o)
 have HE0 : Hid (∀ o, Blk (((w.alloc (.cells s.cs 103)).alloc (.cells e.cs 89)).alloc o) (w.heap.size + 1) 89 e.cs) := Lib.hid (fun o => Blk.alloc (Blk.newAt (by simp)) o)
 have HR : Hid (Blk (((w.alloc (.cells s.cs 103)).alloc (.cells e.cs 89)).alloc (.cells zSt 103)) (w.heap.size + 1 + 1) 103 zSt) := Blk.newAt (by simp)
 have HB : Hid (Below w.heap.size w (((w.alloc (.cells s.cs 103)).alloc (.cells e.cs 89)).alloc (.cells zSt 103))) := (((Below.refl _ _).alloc (Nat.le_refl _) _).alloc (by simp) _).alloc (by simp <;> omega) _
 have HM := Lib.hid hS
 have HF := Lib.hid hf
 have HFI := fun W => Lib.hid (HFT W)
 have HNM := fun W => Lib.hid (sname_gen s W hf)
 have HOW := fun W hW => Lib.hid (xown_any s W hf (hS.bel (w' := W) hW))
 have htl := hf.tops
 have HCT := fun (W : World) (hW : Below w.heap.size w W) (hk : Blk W (w.heap.size + 1) 89 e.cs) => Lib.hid (contains_en (w.heap.size + 1) s.A s.tops s.c (fun y => sameP y e) W (hS.bel hW).tops (by omega) (fun W' hW' y _ => moresame_any _ e y W' (hk.bel hW')))
 have HE : Hid (moreE s e fb = if s.closed then 8 else if mustB s e fb = false then 13 else if sameP s.lock e || s.tops.any (fun y => sameP y e) then 7 else if 3 ≤ s.tops.length then 9 else 0) := rfl
 have HMU : Hid (mustB s e fb = (decide (e.o.kind = 3) && fb && decide (e.o.of_ = s.name) && decide (e.o.key = s.lock.o.key) && decide (e.o.gate = s.lock.o.gate) && decide (e.o.ex = s.lock.o.ex))) := rfl
 generalize moreE s e fb = f at HE ⊢
 generalize mustB s e fb = mu at HE HMU
 generalize s.tops.any (fun y => sameP y e) = bt at HE HCT
 have HSL := fun W hW => Lib.hid (moresame_any (w.heap.size + 1) e s.lock W hW)
 generalize sameP s.lock e = bl at HE HSL
 generalize hnm : s.name = nm at HNM HMU
 obtain ⟨i0, hi, hz0, hz1, hz2⟩ := info_parts Tryz.infoEn'
 have Hhz := Lib.hid hz0
 clear hS hf HFT hnm hz0
 go_enter Tryz.func96, Tryz.ntmps96
 go_upto_region 1 with fail
 refine wp_gen fun X0 hX => ?_
 have HX : Hid (Blk X0 w.heap.size 103 s.cs) := Lib.hid (by rw [hX]; exact HX0.out _)
 have HEn : Hid (Blk X0 (w.heap.size + 1) 89 e.cs) := Lib.hid (by rw [hX]; exact HE0.out _)
 replace HR : Hid (Blk X0 (w.heap.size + 1 + 1) 103 zSt) := Lib.hid (by rw [hX]; exact HR.out)
 replace HB : Hid (Below w.heap.size w X0) := Lib.hid (by rw [hX]; exact HB.out)
 clear hX HX0 HE0
 go_cut [6, 7] from 9 to 13 (fun v6 v7 wx => ∃ a6 a7 : Nat, v6 = .pointer (some ⟨a6, 0, none⟩) ∧ v7 = .pointer (some ⟨a7, 0, none⟩) ∧ Hid (Blk wx a6 81 e.o.cs) ∧ Hid (Blk wx a7 81 s.lock.o.cs) ∧ Hid (Blk wx w.heap.size 103 s.cs) ∧ Hid (Blk wx (w.heap.size + 1) 89 e.cs) ∧ Hid (Blk wx (w.heap.size + 1 + 1) 103 zSt) ∧ Hid (Below w.heap.size w wx))
 case first =>
  refine wp_region_held_drew (S := fun W => Hid (Blk W w.heap.size 103 s.cs ∧ Blk W (w.heap.size + 1) 89 e.cs)) (by kernel_rfl) (Lib.hid ⟨HX.out.drewN 1, HEn.out.drewN 1⟩) (fun hS => ?_)
  replace HX : Hid (Blk X0.drew w.heap.size 103 s.cs) := Lib.hid (HX.out.drewN 1)
  replace HEn : Hid (Blk X0.drew (w.heap.size + 1) 89 e.cs) := Lib.hid (HEn.out.drewN 1)
  replace HR : Hid (Blk X0.drew (w.heap.size + 1 + 1) 103 zSt) := Lib.hid (HR.out.drewN 1)
  replace HB : Hid (Below w.heap.size w X0.drew) := HB.out.drew
  refine wpAnyH_genT fun X hX => ?_
  rw [← hX] at HX HEn HR HB hS
  clear hX
  refine wpAnyH_take (i := 0) (v := ?_) rfl (by kernel_rfl) (by kernel_rfl) (by kernel_rfl) (fun _ _ _ h => h) (Or.inl ⟨by rfl, ?_⟩) hS ?_
  rotate_left
  ·(intro w _; go_simp; try with_reducible rfl)
  refine wpAnyH_take (i := 1) (v := .agg e.o.cs) rfl (by kernel_rfl) (by kernel_rfl) (by kernel_rfl) (fun _ _ _ h => h) (yields_blk (by rfl) 81 (.tmp 9) (by rfl) (w.heap.size + 1) 2 9 (t := 89) (cs := e.cs) (fun W h => h.out.2) e.o.cs (by rfl) (en_part e) Tryz.underlying81 infoOuC (by show 11 ≤ 11; omega)) hS ?_
  refine wpAnyH_take (i := 2) (v := ?_) rfl (by kernel_rfl) (by kernel_rfl) (by kernel_rfl) (fun _ _ _ h => h) (Or.inl ⟨by rfl, ?_⟩) hS ?_
  rotate_left
  ·(intro w _; go_simp; try with_reducible rfl)
  refine wpAnyH_take (i := 3) (v := ?_) rfl (by kernel_rfl) (by kernel_rfl) (by kernel_rfl) (fun _ _ _ h => h) (Or.inl ⟨by rfl, ?_⟩) hS ?_
  rotate_left
  ·(intro w _; go_simp; try with_reducible rfl)
  refine wpAnyH_take (i := 4) (v := .agg s.lock.o.cs) rfl (by kernel_rfl) (by kernel_rfl) (by kernel_rfl) (fun _ _ _ h => h) (yields_blk (by rfl) 81 (.tmp 12) (by rfl) w.heap.size 2 9 (t := 103) (cs := s.cs) (fun W h => h.out.1) s.lock.o.cs (by rfl) (st_part s) Tryz.underlying81 infoOuC (by show 11 ≤ 20; omega)) hS ?_
  clear hS
  refine wpAnyH_ready (rs := [5, 6]) (by kernel_rfl) (by simp) (AllReadyH.cons rfl (fun K hK => ?_) (AllReadyH.cons rfl (fun K hK => ?_) AllReadyH.nil))
  ·go_simp
   refine hK.out _ _ (Lib.hid ⟨HX.out.alloc _, HEn.out.alloc _⟩) (fun _ => ?_)
   clear hK K
   refine wpAnyH_ready (rs := [6]) (by kernel_rfl) (by simp) (AllReadyH.cons rfl (fun K hK => ?_) AllReadyH.nil)
   go_simp
   refine hK.out _ _ (Lib.hid ⟨(HX.out.alloc _).alloc _, (HEn.out.alloc _).alloc _⟩) (fun _ => ?_)
   clear hK K
   have hgl := HR.out.lt
   have HZ0 : Hid (Blk ((X.alloc (.cells zOu.cs 81)).alloc (.cells zOu.cs 81)) X.heap.size 81 zOu.cs) := Lib.hid ((Blk.new _ _ _).alloc _)
   have HZ1 : Hid (Blk ((X.alloc (.cells zOu.cs 81)).alloc (.cells zOu.cs 81)) (X.heap.size + 1) 81 zOu.cs) := Lib.hid (Blk.newAt (by simp))
   replace HX := Lib.hid ((HX.out.alloc (.cells zOu.cs 81)).alloc (.cells zOu.cs 81))
   replace HEn := Lib.hid ((HEn.out.alloc (.cells zOu.cs 81)).alloc (.cells zOu.cs 81))
   replace HR := Lib.hid ((HR.out.alloc (.cells zOu.cs 81)).alloc (.cells zOu.cs 81))
   replace HB := Lib.hid ((HB.out.alloc HB.out.size (.cells zOu.cs 81)).alloc (by have := HB.out.size; simp; omega) (.cells zOu.cs 81))
   have HZA : Hid (Blk ((X.alloc (.cells zOu.cs 81)).alloc (.cells zOu.cs 81)) (X.heap.size) 81 zOu.cs) := by first | exact HZ0 | exact HZ1
   have HZB : Hid (Blk ((X.alloc (.cells zOu.cs 81)).alloc (.cells zOu.cs 81)) ((X.heap.size + 1)) 81 zOu.cs) := by first | exact HZ0 | exact HZ1
   have hge : w.heap.size ≤ X.heap.size := by omega
   clear HZ0 HZ1
   refine wpAnyH_ready (rs := [7]) (by kernel_rfl) (by simp) (AllReadyH.cons rfl (fun K hK => ?_) AllReadyH.nil)
   refine step_store_part (by rfl) 81 (.tmp 6) (.tmp 10) (by rfl) (X.heap.size) 0 HZA.out e.o.cs e.o.cs (by rfl) (by rfl) (Nat.le_refl 9) infoOuC (oucs_one _) (ou_over _ rfl) ?_
   intro W1 hb1 hc1
   have HO := Lib.hid hb1
   replace HZB := Lib.hid (HZB.out.ch hc1 (by simp))
   replace HX := Lib.hid (HX.out.ch hc1 (by simp <;> omega))
   replace HEn := Lib.hid (HEn.out.ch hc1 (by simp <;> omega))
   replace HR := Lib.hid (HR.out.ch hc1 (by simp <;> omega))
   replace HB := Lib.hid (HB.out.trans (hc1.below HB.out.size (by simp <;> omega)))
   clear hb1 hc1 HZA
   refine hK.out _ _ (Lib.hid ⟨HX.out, HEn.out⟩) (fun _ => ?_)
   clear hK K
   refine wpAnyH_ready (rs := [8]) (by kernel_rfl) (by simp) (AllReadyH.cons rfl (fun K hK => ?_) AllReadyH.nil)
   refine step_store_part (by rfl) 81 (.tmp 7) (.tmp 13) (by rfl) ((X.heap.size + 1)) 0 HZB.out s.lock.o.cs s.lock.o.cs (by rfl) (by rfl) (Nat.le_refl 9) infoOuC (oucs_one _) (ou_over _ rfl) ?_
   intro W2 hb1 hc1
   have HL := Lib.hid hb1
   replace HO := Lib.hid (HO.out.ch hc1 (by simp))
   replace HX := Lib.hid (HX.out.ch hc1 (by simp <;> omega))
   replace HEn := Lib.hid (HEn.out.ch hc1 (by simp <;> omega))
   replace HR := Lib.hid (HR.out.ch hc1 (by simp <;> omega))
   replace HB := Lib.hid (HB.out.trans (hc1.below HB.out.size (by simp <;> omega)))
   clear hb1 hc1 HZB
   refine hK.out _ _ (Lib.hid ⟨HX.out, HEn.out⟩) (fun _ => ?_)
   clear hK K
   refine wpAnyH_done (by kernel_rfl) ?_ _
   go_simp
   go_wp2_with fail
   go_meet
   exact ⟨X.heap.size, (X.heap.size + 1), rfl, rfl, HO, HL, HX, HEn, HR, HB⟩
  ·go_simp
   refine hK.out _ _ (Lib.hid ⟨HX.out.alloc _, HEn.out.alloc _⟩) (fun _ => ?_)
   clear hK K
   refine wpAnyH_ready (rs := [5]) (by kernel_rfl) (by simp) (AllReadyH.cons rfl (fun K hK => ?_) AllReadyH.nil)
   go_simp
   refine hK.out _ _ (Lib.hid ⟨(HX.out.alloc _).alloc _, (HEn.out.alloc _).alloc _⟩) (fun _ => ?_)
   clear hK K
   have hgl := HR.out.lt
   have HZ0 : Hid (Blk ((X.alloc (.cells zOu.cs 81)).alloc (.cells zOu.cs 81)) X.heap.size 81 zOu.cs) := Lib.hid ((Blk.new _ _ _).alloc _)
   have HZ1 : Hid (Blk ((X.alloc (.cells zOu.cs 81)).alloc (.cells zOu.cs 81)) (X.heap.size + 1) 81 zOu.cs) := Lib.hid (Blk.newAt (by simp))
   replace HX := Lib.hid ((HX.out.alloc (.cells zOu.cs 81)).alloc (.cells zOu.cs 81))
   replace HEn := Lib.hid ((HEn.out.alloc (.cells zOu.cs 81)).alloc (.cells zOu.cs 81))
   replace HR := Lib.hid ((HR.out.alloc (.cells zOu.cs 81)).alloc (.cells zOu.cs 81))
   replace HB := Lib.hid ((HB.out.alloc HB.out.size (.cells zOu.cs 81)).alloc (by have := HB.out.size; simp; omega) (.cells zOu.cs 81))
   have HZA : Hid (Blk ((X.alloc (.cells zOu.cs 81)).alloc (.cells zOu.cs 81)) ((X.heap.size + 1)) 81 zOu.cs) := by first | exact HZ0 | exact HZ1
   have HZB : Hid (Blk ((X.alloc (.cells zOu.cs 81)).alloc (.cells zOu.cs 81)) (X.heap.size) 81 zOu.cs) := by first | exact HZ0 | exact HZ1
   have hge : w.heap.size ≤ X.heap.size := by omega
   clear HZ0 HZ1
   refine wpAnyH_ready (rs := [7]) (by kernel_rfl) (by simp) (AllReadyH.cons rfl (fun K hK => ?_) AllReadyH.nil)
   refine step_store_part (by rfl) 81 (.tmp 6) (.tmp 10) (by rfl) ((X.heap.size + 1)) 0 HZA.out e.o.cs e.o.cs (by rfl) (by rfl) (Nat.le_refl 9) infoOuC (oucs_one _) (ou_over _ rfl) ?_
   intro W1 hb1 hc1
   have HO := Lib.hid hb1
   replace HZB := Lib.hid (HZB.out.ch hc1 (by simp))
   replace HX := Lib.hid (HX.out.ch hc1 (by simp <;> omega))
   replace HEn := Lib.hid (HEn.out.ch hc1 (by simp <;> omega))
   replace HR := Lib.hid (HR.out.ch hc1 (by simp <;> omega))
   replace HB := Lib.hid (HB.out.trans (hc1.below HB.out.size (by simp <;> omega)))
   clear hb1 hc1 HZA
   refine hK.out _ _ (Lib.hid ⟨HX.out, HEn.out⟩) (fun _ => ?_)
   clear hK K
   refine wpAnyH_ready (rs := [8]) (by kernel_rfl) (by simp) (AllReadyH.cons rfl (fun K hK => ?_) AllReadyH.nil)
   refine step_store_part (by rfl) 81 (.tmp 7) (.tmp 13) (by rfl) (X.heap.size) 0 HZB.out s.lock.o.cs s.lock.o.cs (by rfl) (by rfl) (Nat.le_refl 9) infoOuC (oucs_one _) (ou_over _ rfl) ?_
   intro W2 hb1 hc1
   have HL := Lib.hid hb1
   replace HO := Lib.hid (HO.out.ch hc1 (by simp))
   replace HX := Lib.hid (HX.out.ch hc1 (by simp <;> omega))
   replace HEn := Lib.hid (HEn.out.ch hc1 (by simp <;> omega))
   replace HR := Lib.hid (HR.out.ch hc1 (by simp <;> omega))
   replace HB := Lib.hid (HB.out.trans (hc1.below HB.out.size (by simp <;> omega)))
   clear hb1 hc1 HZB
   refine hK.out _ _ (Lib.hid ⟨HX.out, HEn.out⟩) (fun _ => ?_)
   clear hK K
   refine wpAnyH_done (by kernel_rfl) ?_ _
   go_simp
   go_wp2_with fail
   go_meet
   exact ⟨(X.heap.size + 1), X.heap.size, rfl, rfl, HO, HL, HX, HEn, HR, HB⟩
 case rest =>
  clear HX HEn HR HB
  obtain ⟨a6, a7, rfl, rfl, HO, HL, HX, HEn, HR, HB⟩ := hcut
  have u19 : wc.cell? ⟨w.heap.size, 19, none⟩ = some (.bool s.closed) := HX.out.cell 19
  generalize s.closed = cl at u19 HE
  cases cl with
  | true =>
   obtain rfl : f = 8 := HE.out
   clear HE HMU HFI HNM HOW HCT HSL
   go_wp2_with (refine wpList_store_part rfl 103 (.tmp 4) (.tmp 18) rfl (w.heap.size + 1 + 1) 0 HR.out zSt zSt (by rfl) (by rfl) (Nat.le_refl 20) infoSta zStO (zStV rfl) ?_; intro W6 hb6 hc6; have HT := Lib.hid hb6; have HC6 := Lib.hid hc6; clear hb6 hc6)
   refine bodyPost_ret (results_cell_row2 rfl _ HT.out rfl Tryz.underlying103 infoSta) rfl ?_
   exact ⟨HB.out.trans (HC6.out.below HB.out.size (by simp <;> omega)), .inl ⟨by decide, rfl⟩⟩
  | false =>
   have HE1 : Hid (f = if mu = false then 13 else if bl || bt then 7 else if 3 ≤ s.tops.length then 9 else 0) := Lib.hid (by rw [HE.out, if_neg (by simp)])
   clear HE
   go_upto_region 5 with fail
   clear u19
   have q0 := cell_rg (show wc.cell? ⟨a6, 0, none⟩ = some (.int .i64 e.o.kind) from HO.out.cell 0)
   have q8 := cell_rg (show wc.cell? ⟨a6, 8, none⟩ = some (.string e.o.of_) from HO.out.cell 8)
   have q2 := cell_rg (show wc.cell? ⟨a6, 2, none⟩ = some (.string e.o.key) from HO.out.cell 2)
   have q3 := cell_rg (show wc.cell? ⟨a6, 3, none⟩ = some (.string e.o.gate) from HO.out.cell 3)
   have q4 := cell_rg (show wc.cell? ⟨a6, 4, none⟩ = some (.int .i64 e.o.ex) from HO.out.cell 4)
   have p2 := cell_rg (show wc.cell? ⟨a7, 2, none⟩ = some (.string s.lock.o.key) from HL.out.cell 2)
   have p3 := cell_rg (show wc.cell? ⟨a7, 3, none⟩ = some (.string s.lock.o.gate) from HL.out.cell 3)
   have p4 := cell_rg (show wc.cell? ⟨a7, 4, none⟩ = some (.int .i64 s.lock.o.ex) from HL.out.cell 4)
   have g2 := toList_beq e.o.key s.lock.o.key
   have g3 := toList_beq e.o.gate s.lock.o.gate
   have g8 := toList_beq e.o.of_ nm
   by_cases k0 : e.o.kind = 3
   ·have d0 : (e.o.kind != 3) = false := by simp [k0]
    rw [decide_eq_true k0] at HMU
    clear k0
    cases fb with
    | false =>
     obtain rfl : mu = false := HMU.out.trans (by simp)
     obtain rfl : f = 13 := by rw [HE1.out, if_pos rfl]
     refine wp_region_quiet_below (by kernel_rfl) (by kernel_rfl) ?_
     repeat (first | go_big_quiet_skip | (go_big_quiet_want; first | ((first
            | (refine quiet_load_blk 81 (.tmp 6) rfl a6 0 9 HO.out e.o.cs (by rfl) (by rfl) Tryz.underlying81 infoOuC (Nat.le_refl 9) ?_; go_simp)
            | (refine quiet_load_blk 103 (.tmp 2) rfl w.heap.size 0 20 HX.out s.cs (by rfl) (st_ext s) Tryz.underlying103 infoSta (st_le s) ?_; go_simp)); go_big_quiet_on) | (go_big_quiet_op; first | go_big_quiet_on | go_big_quiet_call ((first
           | (go_at_call 83; exact Calls.rg fun W _ => (HFI W).out)
           | (go_at_call 119; exact Calls.rg fun W _ => (HNM W).out))))))
     refine wpQuiet_nil ?_
     intro U hp
     have hb := bel_regrown hp
     clear hp
     replace HX := Lib.hid (HX.out.bel hb)
     replace HEn := Lib.hid (HEn.out.bel hb)
     replace HR := Lib.hid (HR.out.bel hb)
     replace HB := Lib.hid (HB.out.trans (hb.mono HB.out.size))
     clear hb
     clear q0 q8 q2 q3 q4 p2 p3 p4
     go_wp2_with (refine wpList_store_part rfl 103 (.tmp 4) (.tmp 56) rfl (w.heap.size + 1 + 1) 0 HR.out zSt zSt (by rfl) (by rfl) (Nat.le_refl 20) infoSta zStO (zStV rfl) ?_; intro W6 hb6 hc6; have HT := Lib.hid hb6; have HC6 := Lib.hid hc6; clear hb6 hc6)
     refine bodyPost_ret (results_cell_row2 rfl _ HT.out rfl Tryz.underlying103 infoSta) rfl ?_
     exact ⟨HB.out.trans (HC6.out.below HB.out.size (by simp <;> omega)), .inl ⟨by decide, rfl⟩⟩
    | true =>
     by_cases k8 : e.o.of_ = nm
     ·rw [decide_eq_true k8] at g8 HMU
      clear k8
      by_cases k2 : e.o.key = s.lock.o.key
      ·rw [decide_eq_true k2] at g2 HMU
       clear k2
       by_cases k3 : e.o.gate = s.lock.o.gate
       ·rw [decide_eq_true k3] at g3 HMU
        clear k3
        by_cases k4 : e.o.ex = s.lock.o.ex
        ·rw [decide_eq_true k4] at HMU
         have d4 : (e.o.ex != s.lock.o.ex) = false := by simp [k4]
         obtain rfl : mu = true := HMU.out.trans (by simp)
         have HE2 : Hid (f = if bl || bt then 7 else if 3 ≤ s.tops.length then 9 else 0) := Lib.hid (by rw [HE1.out, if_neg (by simp)])
         clear k4 HMU HE1
         refine wp_region_quiet_below (by kernel_rfl) (by kernel_rfl) ?_
         repeat (first | go_big_quiet_skip | (go_big_quiet_want; first | ((first
                    | (refine quiet_load_blk 81 (.tmp 6) rfl a6 0 9 HO.out e.o.cs (by rfl) (by rfl) Tryz.underlying81 infoOuC (Nat.le_refl 9) ?_; go_simp)
                    | (refine quiet_load_blk 103 (.tmp 2) rfl w.heap.size 0 20 HX.out s.cs (by rfl) (st_ext s) Tryz.underlying103 infoSta (st_le s) ?_; go_simp)); go_big_quiet_on) | (go_big_quiet_op; first | go_big_quiet_on | go_big_quiet_call ((first
                   | (go_at_call 83; exact Calls.rg fun W _ => (HFI W).out)
                   | (go_at_call 119; exact Calls.rg fun W _ => (HNM W).out))))))
         refine wpQuiet_nil ?_
         intro U hp
         have hb := bel_regrown hp
         clear hp
         replace HX := Lib.hid (HX.out.bel hb)
         replace HEn := Lib.hid (HEn.out.bel hb)
         replace HR := Lib.hid (HR.out.bel hb)
         replace HB := Lib.hid (HB.out.trans (hb.mono HB.out.size))
         clear hb
         clear q0 q8 q2 q3 q4 p2 p3 p4
         clear d0 d4 g2 g3 g8 HFI HNM
         go_wp2_with (refine wpList_load_blk rfl 89 (.tmp 59) rfl w.heap.size 0 11 HX.out s.lock.cs (by rfl) (st_lock s) Tryz.underlying89 infoEnt (by show 11 ≤ 20; omega) ?_)
         refine (HSL _ HEn.out).out.mono ?_
         rintro e' V1 ⟨rfl, hb⟩
         replace HX := Lib.hid (HX.out.bel hb)
         replace HEn := Lib.hid (HEn.out.bel hb)
         replace HR := Lib.hid (HR.out.bel hb)
         replace HB := Lib.hid (HB.out.trans (hb.mono HB.out.size))
         clear hb
         cases bl with
         | true =>
          obtain rfl : f = 7 := HE2.out
          go_wp2_with (refine wpList_store_part rfl 103 (.tmp 4) (.tmp 68) rfl (w.heap.size + 1 + 1) 0 HR.out zSt zSt (by rfl) (by rfl) (Nat.le_refl 20) infoSta zStO (zStV rfl) ?_; intro W6 hb6 hc6; have HT := Lib.hid hb6; have HC6 := Lib.hid hc6; clear hb6 hc6)
          refine bodyPost_ret (results_cell_row2 rfl _ HT.out rfl Tryz.underlying103 infoSta) rfl ?_
          exact ⟨HB.out.trans (HC6.out.below HB.out.size (by simp <;> omega)), .inl ⟨by decide, rfl⟩⟩
         | false =>
          have HE3 : Hid (f = if bt then 7 else if 3 ≤ s.tops.length then 9 else 0) := HE2
          have u11 : V1.cell? ⟨w.heap.size, 11, none⟩ = some (.slice s.A s.tops.length s.c) := HX.out.cell 11
          go_wp2_with fail
          refine (HCT _ HB.out HEn.out).out.mono ?_
          rintro e' V2 ⟨rfl, hb⟩
          replace HX := Lib.hid (HX.out.bel hb)
          replace HEn := Lib.hid (HEn.out.bel hb)
          replace HR := Lib.hid (HR.out.bel hb)
          replace HB := Lib.hid (HB.out.trans (hb.mono HB.out.size))
          clear hb
          clear u11 HE2 HSL HCT
          cases bt with
          | true =>
           obtain rfl : f = 7 := HE3.out
           go_wp2_with (refine wpList_store_part rfl 103 (.tmp 4) (.tmp 68) rfl (w.heap.size + 1 + 1) 0 HR.out zSt zSt (by rfl) (by rfl) (Nat.le_refl 20) infoSta zStO (zStV rfl) ?_; intro W6 hb6 hc6; have HT := Lib.hid hb6; have HC6 := Lib.hid hc6; clear hb6 hc6)
           refine bodyPost_ret (results_cell_row2 rfl _ HT.out rfl Tryz.underlying103 infoSta) rfl ?_
           exact ⟨HB.out.trans (HC6.out.below HB.out.size (by simp <;> omega)), .inl ⟨by decide, rfl⟩⟩
          | false =>
           have HE4 : Hid (f = if 3 ≤ s.tops.length then 9 else 0) := HE3
           have u11 : V2.cell? ⟨w.heap.size, 11, none⟩ = some (.slice s.A s.tops.length s.c) := HX.out.cell 11
           clear HE3
           by_cases h3 : 3 ≤ s.tops.length
           ·have d3 : decide ((3 : Int) ≤ (s.tops.length : Int)) = true := decide_eq_true (by omega)
            have d3' : decide (3 ≤ s.tops.length) = true := decide_eq_true h3
            obtain rfl : f = 9 := by rw [HE4.out, if_pos h3]
            clear h3 HE4
            go_wp2_with (refine wpList_store_part rfl 103 (.tmp 4) (.tmp 74) rfl (w.heap.size + 1 + 1) 0 HR.out zSt zSt (by rfl) (by rfl) (Nat.le_refl 20) infoSta zStO (zStV rfl) ?_; intro W6 hb6 hc6; have HT := Lib.hid hb6; have HC6 := Lib.hid hc6; clear hb6 hc6)
            refine bodyPost_ret (results_cell_row2 rfl _ HT.out rfl Tryz.underlying103 infoSta) rfl ?_
            exact ⟨HB.out.trans (HC6.out.below HB.out.size (by simp <;> omega)), .inl ⟨by decide, rfl⟩⟩
           ·have d3 : decide ((3 : Int) ≤ (s.tops.length : Int)) = false := decide_eq_false (by omega)
            have d3' : decide (3 ≤ s.tops.length) = false := decide_eq_false h3
            obtain rfl : f = 0 := by rw [HE4.out, if_neg h3]
            clear h3 HE4
            go_wp2_with (refine wpList_load_blk rfl 103 (.tmp 2) rfl w.heap.size 0 20 HX.out s.cs (by rfl) (st_ext s) Tryz.underlying103 infoSta (st_le s) ?_)
            refine (HOW _ HB.out).out.mono ?_
            rintro e' V3 ⟨VV, A2, c2, B2, d2, rfl, ho⟩
            have hval := ho.val
            subst hval
            have hb := ho.below
            have HLS := Lib.hid ho.ls
            have hv2 : w.heap.size + 1 + 1 < V2.heap.size := HR.out.lt
            have hz23 := hb.size
            replace HX := Lib.hid (HX.out.bel hb)
            replace HEn := Lib.hid (HEn.out.bel hb)
            replace HR := Lib.hid (HR.out.bel hb)
            replace HB := Lib.hid (HB.out.trans (hb.mono HB.out.size))
            clear hb
            clear ho u11 d3 d3' HOW
            have hz3 := HB.out.size
            have hN : w.heap.size + 1 + 1 < V3.heap.size := HR.out.lt
            have HE11 : Hid (e.cs = #[.string e.tx, .int .i64 e.out, .int .i64 e.o.kind, .int .u64 (e.o.am : Nat), .string e.o.key, .string e.o.gate, .int .i64 e.o.ex, .string e.o.anchor, .int .u64 (e.o.unit : Nat), .int .i64 e.o.tok, .string e.o.of_]) := rfl
            go_wp2_with (first
             | (refine wpList_store_part rfl 103 (.tmp 2) (.tmp 76) rfl w.heap.size 0 HX.out (s.lists A2 c2 B2 d2).cs (s.lists A2 c2 B2 d2).cs (by rfl) (by rfl) (Nat.le_refl 20) infoSta (stcs_one _) (st_over _ rfl) ?_; intro V4 hb4 hc4; have HX4 := Lib.hid hb4; have HEn4 := Lib.hid (HEn.out.ch hc4 (by simp)); have HR4 := Lib.hid (HR.out.ch hc4 (by simp <;> omega)); have HB4 := Lib.hid (HB.out.trans (hc4.below HB.out.size (by simp))); have HLS4 := Lib.hid (HLS.out.ch hc4 HX.out.kdT); have u11 : V4.cell? ⟨w.heap.size, 11, none⟩ = some (.slice A2 s.tops.length c2) := HX4.out.cell 11; have hz4 := hc4.size; clear hb4 hc4)
             | (refine wpList_load_blk rfl 89 (.tmp 3) rfl (w.heap.size + 1) 0 11 HEn4.out #[.string e.tx, .int .i64 e.out, .int .i64 e.o.kind, .int .u64 (e.o.am : Nat), .string e.o.key, .string e.o.gate, .int .i64 e.o.ex, .string e.o.anchor, .int .u64 (e.o.unit : Nat), .int .i64 e.o.tok, .string e.o.of_] (by rfl) (by rfl) Tryz.underlying89 infoEnt (Nat.le_refl 11) ?_)
             | (at_builtin; go_must (refine wpList_append_own _ rfl (.tmp 78) (.tmp 80) _ rfl V2.heap.size 89 i0 _ 11 128 Tryz.underlying85 hi Hhz.out hz1 hz2 rfl (by decide) _ s.tops.length _ rfl (HLS4.out.r1.alloc _) ⟨V4.heap.size, 0, none⟩ 1 1 e.cl rfl rfl (World.news_of_block (cs := e.cs) (heap_alloc_new V4 _)) (encl_one e) (by simp only [maxLen]; omega) (by omega) (by simp; omega) ?_); intro v' V5 hown5 hg5 hnil5; have hb5 : Below V2.heap.size V4 V5 := ((Below.refl _ _).alloc (by omega) _).grown hg5 (by simp; omega) (own_base HLS4.out.r1); have HO5 := Lib.hid hown5; have HX5 := Lib.hid (HX4.out.below hb5 (by omega)); have HR5 := Lib.hid (HR4.out.below hb5 (by omega)); have HB5 := Lib.hid (HB4.out.trans (hb5.mono (by omega))); have HW5 := Lib.hid (own_keptT (HLS4.out.r2.alloc _) (HLS4.out.r1.alloc _) (by decide) hg5); obtain ⟨A5, c5, rfl⟩ := own_form hown5; have z11 : V5.frozen? ⟨w.heap.size, 11, none⟩ = false := HX5.out.frozen 11; have u11b : V5.cell? ⟨w.heap.size, 11, none⟩ = some (.slice A2 s.tops.length c2) := HX5.out.cell 11; have HX6 : Hid (Blk (V5.setCell ⟨w.heap.size, 11, none⟩ (.slice A5 (s.tops.length + 1) c5)) w.heap.size 103 ((s.addtop e).lists A5 c5 B2 d2).cs) := Lib.hid (by have q := HX5.out.set_ 11 (.slice A5 (s.tops.length + 1) c5); rw [top_set11 s e] at q; exact q); have HR6 : Hid (Blk (V5.setCell ⟨w.heap.size, 11, none⟩ (.slice A5 (s.tops.length + 1) c5)) (w.heap.size + 1 + 1) 103 zSt) := Lib.hid (HR5.out.far (p := ⟨w.heap.size, 11, none⟩) (by simp <;> omega) _); have HB6 : Hid (Below w.heap.size w (V5.setCell ⟨w.heap.size, 11, none⟩ (.slice A5 (s.tops.length + 1) c5))) := HB5.out.setCell (by simp) _; have HL6 : Hid (LsAt (s.addtop e) V2.heap.size (V5.setCell ⟨w.heap.size, 11, none⟩ (.slice A5 (s.tops.length + 1) c5)) A5 c5 B2 d2) := Lib.hid (top_ls (own_chT HO5.out (Ch.set_ (S := [w.heap.size]) (b := w.heap.size) (by simp) V5 11 _) HX5.out.kdT (by decide)) (own_chT HW5.out (Ch.set_ (S := [w.heap.size]) (b := w.heap.size) (by simp) V5 11 _) HX5.out.kdT (by decide)) HLS4.out.n2); clear hown5 hg5 hnil5 hb5 HO5 HX5 HR5 HB5 HW5)
             | (refine wpList_load_blk rfl 103 (.tmp 2) rfl w.heap.size 0 20 HX6.out ((s.addtop e).lists A5 c5 B2 d2).cs (by rfl) (st_ext _) Tryz.underlying103 infoSta (st_le _) ?_)
             | (refine wpList_store_part rfl 103 (.tmp 4) (.tmp 83) rfl (w.heap.size + 1 + 1) 0 HR6.out ((s.addtop e).lists A5 c5 B2 d2).cs ((s.addtop e).lists A5 c5 B2 d2).cs (by rfl) (by rfl) (Nat.le_refl 20) infoSta (stcs_one _) (st_over _ rfl) ?_; intro W6 hb6 hc6; have HT := Lib.hid hb6; have HC6 := Lib.hid hc6; clear hb6 hc6))
            refine bodyPost_ret (results_cell_row2 rfl _ HT.out rfl Tryz.underlying103 infoSta) rfl ?_
            exact ⟨HB6.out.trans (HC6.out.below HB6.out.size (by simp <;> omega)), .inr ⟨rfl, A5, c5, B2, d2, rfl, (HL6.out.mono (by omega)).ch HC6.out HR6.out.kdT⟩⟩
        ·have d4 : (e.o.ex != s.lock.o.ex) = true := by simp [bne, beq_eq_false_iff_ne.2 k4]
         rw [decide_eq_false k4] at HMU
         obtain rfl : mu = false := HMU.out.trans (by simp)
         obtain rfl : f = 13 := by rw [HE1.out, if_pos rfl]
         clear k4
         refine wp_region_quiet_below (by kernel_rfl) (by kernel_rfl) ?_
         repeat (first | go_big_quiet_skip | (go_big_quiet_want; first | ((first
                    | (refine quiet_load_blk 81 (.tmp 6) rfl a6 0 9 HO.out e.o.cs (by rfl) (by rfl) Tryz.underlying81 infoOuC (Nat.le_refl 9) ?_; go_simp)
                    | (refine quiet_load_blk 103 (.tmp 2) rfl w.heap.size 0 20 HX.out s.cs (by rfl) (st_ext s) Tryz.underlying103 infoSta (st_le s) ?_; go_simp)); go_big_quiet_on) | (go_big_quiet_op; first | go_big_quiet_on | go_big_quiet_call ((first
                   | (go_at_call 83; exact Calls.rg fun W _ => (HFI W).out)
                   | (go_at_call 119; exact Calls.rg fun W _ => (HNM W).out))))))
         refine wpQuiet_nil ?_
         intro U hp
         have hb := bel_regrown hp
         clear hp
         replace HX := Lib.hid (HX.out.bel hb)
         replace HEn := Lib.hid (HEn.out.bel hb)
         replace HR := Lib.hid (HR.out.bel hb)
         replace HB := Lib.hid (HB.out.trans (hb.mono HB.out.size))
         clear hb
         clear q0 q8 q2 q3 q4 p2 p3 p4
         go_wp2_with (refine wpList_store_part rfl 103 (.tmp 4) (.tmp 56) rfl (w.heap.size + 1 + 1) 0 HR.out zSt zSt (by rfl) (by rfl) (Nat.le_refl 20) infoSta zStO (zStV rfl) ?_; intro W6 hb6 hc6; have HT := Lib.hid hb6; have HC6 := Lib.hid hc6; clear hb6 hc6)
         refine bodyPost_ret (results_cell_row2 rfl _ HT.out rfl Tryz.underlying103 infoSta) rfl ?_
         exact ⟨HB.out.trans (HC6.out.below HB.out.size (by simp <;> omega)), .inl ⟨by decide, rfl⟩⟩
       ·rw [decide_eq_false k3] at g3 HMU
        obtain rfl : mu = false := HMU.out.trans (by simp)
        obtain rfl : f = 13 := by rw [HE1.out, if_pos rfl]
        clear k3
        refine wp_region_quiet_below (by kernel_rfl) (by kernel_rfl) ?_
        repeat (first | go_big_quiet_skip | (go_big_quiet_want; first | ((first
                  | (refine quiet_load_blk 81 (.tmp 6) rfl a6 0 9 HO.out e.o.cs (by rfl) (by rfl) Tryz.underlying81 infoOuC (Nat.le_refl 9) ?_; go_simp)
                  | (refine quiet_load_blk 103 (.tmp 2) rfl w.heap.size 0 20 HX.out s.cs (by rfl) (st_ext s) Tryz.underlying103 infoSta (st_le s) ?_; go_simp)); go_big_quiet_on) | (go_big_quiet_op; first | go_big_quiet_on | go_big_quiet_call ((first
                 | (go_at_call 83; exact Calls.rg fun W _ => (HFI W).out)
                 | (go_at_call 119; exact Calls.rg fun W _ => (HNM W).out))))))
        refine wpQuiet_nil ?_
        intro U hp
        have hb := bel_regrown hp
        clear hp
        replace HX := Lib.hid (HX.out.bel hb)
        replace HEn := Lib.hid (HEn.out.bel hb)
        replace HR := Lib.hid (HR.out.bel hb)
        replace HB := Lib.hid (HB.out.trans (hb.mono HB.out.size))
        clear hb
        clear q0 q8 q2 q3 q4 p2 p3 p4
        go_wp2_with (refine wpList_store_part rfl 103 (.tmp 4) (.tmp 56) rfl (w.heap.size + 1 + 1) 0 HR.out zSt zSt (by rfl) (by rfl) (Nat.le_refl 20) infoSta zStO (zStV rfl) ?_; intro W6 hb6 hc6; have HT := Lib.hid hb6; have HC6 := Lib.hid hc6; clear hb6 hc6)
        refine bodyPost_ret (results_cell_row2 rfl _ HT.out rfl Tryz.underlying103 infoSta) rfl ?_
        exact ⟨HB.out.trans (HC6.out.below HB.out.size (by simp <;> omega)), .inl ⟨by decide, rfl⟩⟩
      ·rw [decide_eq_false k2] at g2 HMU
       obtain rfl : mu = false := HMU.out.trans (by simp)
       obtain rfl : f = 13 := by rw [HE1.out, if_pos rfl]
       clear k2
       refine wp_region_quiet_below (by kernel_rfl) (by kernel_rfl) ?_
       repeat (first | go_big_quiet_skip | (go_big_quiet_want; first | ((first
                | (refine quiet_load_blk 81 (.tmp 6) rfl a6 0 9 HO.out e.o.cs (by rfl) (by rfl) Tryz.underlying81 infoOuC (Nat.le_refl 9) ?_; go_simp)
                | (refine quiet_load_blk 103 (.tmp 2) rfl w.heap.size 0 20 HX.out s.cs (by rfl) (st_ext s) Tryz.underlying103 infoSta (st_le s) ?_; go_simp)); go_big_quiet_on) | (go_big_quiet_op; first | go_big_quiet_on | go_big_quiet_call ((first
               | (go_at_call 83; exact Calls.rg fun W _ => (HFI W).out)
               | (go_at_call 119; exact Calls.rg fun W _ => (HNM W).out))))))
       refine wpQuiet_nil ?_
       intro U hp
       have hb := bel_regrown hp
       clear hp
       replace HX := Lib.hid (HX.out.bel hb)
       replace HEn := Lib.hid (HEn.out.bel hb)
       replace HR := Lib.hid (HR.out.bel hb)
       replace HB := Lib.hid (HB.out.trans (hb.mono HB.out.size))
       clear hb
       clear q0 q8 q2 q3 q4 p2 p3 p4
       go_wp2_with (refine wpList_store_part rfl 103 (.tmp 4) (.tmp 56) rfl (w.heap.size + 1 + 1) 0 HR.out zSt zSt (by rfl) (by rfl) (Nat.le_refl 20) infoSta zStO (zStV rfl) ?_; intro W6 hb6 hc6; have HT := Lib.hid hb6; have HC6 := Lib.hid hc6; clear hb6 hc6)
       refine bodyPost_ret (results_cell_row2 rfl _ HT.out rfl Tryz.underlying103 infoSta) rfl ?_
       exact ⟨HB.out.trans (HC6.out.below HB.out.size (by simp <;> omega)), .inl ⟨by decide, rfl⟩⟩
     ·rw [decide_eq_false k8] at g8 HMU
      obtain rfl : mu = false := HMU.out.trans (by simp)
      obtain rfl : f = 13 := by rw [HE1.out, if_pos rfl]
      clear k8
      refine wp_region_quiet_below (by kernel_rfl) (by kernel_rfl) ?_
      repeat (first | go_big_quiet_skip | (go_big_quiet_want; first | ((first
              | (refine quiet_load_blk 81 (.tmp 6) rfl a6 0 9 HO.out e.o.cs (by rfl) (by rfl) Tryz.underlying81 infoOuC (Nat.le_refl 9) ?_; go_simp)
              | (refine quiet_load_blk 103 (.tmp 2) rfl w.heap.size 0 20 HX.out s.cs (by rfl) (st_ext s) Tryz.underlying103 infoSta (st_le s) ?_; go_simp)); go_big_quiet_on) | (go_big_quiet_op; first | go_big_quiet_on | go_big_quiet_call ((first
             | (go_at_call 83; exact Calls.rg fun W _ => (HFI W).out)
             | (go_at_call 119; exact Calls.rg fun W _ => (HNM W).out))))))
      refine wpQuiet_nil ?_
      intro U hp
      have hb := bel_regrown hp
      clear hp
      replace HX := Lib.hid (HX.out.bel hb)
      replace HEn := Lib.hid (HEn.out.bel hb)
      replace HR := Lib.hid (HR.out.bel hb)
      replace HB := Lib.hid (HB.out.trans (hb.mono HB.out.size))
      clear hb
      clear q0 q8 q2 q3 q4 p2 p3 p4
      go_wp2_with (refine wpList_store_part rfl 103 (.tmp 4) (.tmp 56) rfl (w.heap.size + 1 + 1) 0 HR.out zSt zSt (by rfl) (by rfl) (Nat.le_refl 20) infoSta zStO (zStV rfl) ?_; intro W6 hb6 hc6; have HT := Lib.hid hb6; have HC6 := Lib.hid hc6; clear hb6 hc6)
      refine bodyPost_ret (results_cell_row2 rfl _ HT.out rfl Tryz.underlying103 infoSta) rfl ?_
      exact ⟨HB.out.trans (HC6.out.below HB.out.size (by simp <;> omega)), .inl ⟨by decide, rfl⟩⟩
   ·have d0 : (e.o.kind != 3) = true := by simp [bne, beq_eq_false_iff_ne.2 k0]
    rw [decide_eq_false k0] at HMU
    obtain rfl : mu = false := HMU.out.trans (by simp)
    obtain rfl : f = 13 := by rw [HE1.out, if_pos rfl]
    clear k0
    refine wp_region_quiet_below (by kernel_rfl) (by kernel_rfl) ?_
    repeat (first | go_big_quiet_skip | (go_big_quiet_want; first | ((first
          | (refine quiet_load_blk 81 (.tmp 6) rfl a6 0 9 HO.out e.o.cs (by rfl) (by rfl) Tryz.underlying81 infoOuC (Nat.le_refl 9) ?_; go_simp)
          | (refine quiet_load_blk 103 (.tmp 2) rfl w.heap.size 0 20 HX.out s.cs (by rfl) (st_ext s) Tryz.underlying103 infoSta (st_le s) ?_; go_simp)); go_big_quiet_on) | (go_big_quiet_op; first | go_big_quiet_on | go_big_quiet_call ((first
         | (go_at_call 83; exact Calls.rg fun W _ => (HFI W).out)
         | (go_at_call 119; exact Calls.rg fun W _ => (HNM W).out))))))
    refine wpQuiet_nil ?_
    intro U hp
    have hb := bel_regrown hp
    clear hp
    replace HX := Lib.hid (HX.out.bel hb)
    replace HEn := Lib.hid (HEn.out.bel hb)
    replace HR := Lib.hid (HR.out.bel hb)
    replace HB := Lib.hid (HB.out.trans (hb.mono HB.out.size))
    clear hb
    clear q0 q8 q2 q3 q4 p2 p3 p4
    go_wp2_with (refine wpList_store_part rfl 103 (.tmp 4) (.tmp 56) rfl (w.heap.size + 1 + 1) 0 HR.out zSt zSt (by rfl) (by rfl) (Nat.le_refl 20) infoSta zStO (zStV rfl) ?_; intro W6 hb6 hc6; have HT := Lib.hid hb6; have HC6 := Lib.hid hc6; clear hb6 hc6)
    refine bodyPost_ret (results_cell_row2 rfl _ HT.out rfl Tryz.underlying103 infoSta) rfl ?_
    exact ⟨HB.out.trans (HC6.out.below HB.out.size (by simp <;> omega)), .inl ⟨by decide, rfl⟩⟩
end
section
open Go.RowKit Go.Maps
def newS (e : En) : St := ⟨e, none, [], 0, 0, ByteArray.empty, ByteArray.empty, none, [], 0, 0, 0, 0, false⟩
def newB (e : En) (fb : Bool) : Bool := decide (e.o.kind = 2) && fb
theorem newS_mem (e : En) (w : World) : (newS e).mem w := ⟨Sl.nil _ _ _ _ _, Sl.nil _ _ _ _ _, fun _ => rfl, fun _ => rfl⟩
set_option maxRecDepth 100000 in
set_option maxHeartbeats 2000000 in
theorem xnew_any (e : En) (w : World) (fb : Bool) (HFT : ∀ W, Calls Tryz.prog 83 #[.agg e.o.cs] W fun e' w' => e' = .returned (.bool fb) ∧ Below W.heap.size W w') :
  Calls Tryz.prog 39 #[.agg e.cs] w fun e' w' => e' = .returned (.tuple #[.agg (if newB e fb then (newS e).cs else zSt), .int .i64 (if newB e fb then 0 else 1)]) ∧ Below w.heap.size w w' := by
 have HEn : Hid (Blk ((w.alloc (.cells e.cs 89)).alloc (.cells zSt 103)) w.heap.size 89 e.cs) := Lib.hid ((Blk.new _ _ _).alloc _)
 have HR : Hid (Blk ((w.alloc (.cells e.cs 89)).alloc (.cells zSt 103)) (w.heap.size + 1) 103 zSt) := Blk.newAt (by simp)
 have HB : Hid (Below w.heap.size w ((w.alloc (.cells e.cs 89)).alloc (.cells zSt 103))) := ((Below.refl _ _).alloc (Nat.le_refl _) _).alloc (by simp) _
 have HFI := fun W => Lib.hid (HFT W)
 have c2 : ∀ o, ((w.alloc (.cells e.cs 89)).alloc o).cell? ⟨w.heap.size, 2, none⟩ = some (.int .i64 e.o.kind) := fun o => Blk.cell ((Blk.new w 89 e.cs).alloc o) 2
 have HN : Hid (newB e fb = (decide (e.o.kind = 2) && fb)) := rfl
 generalize newB e fb = nb at HN ⊢
 clear HFT
 by_cases k : e.o.kind = 2
 ·have d : (e.o.kind != 2) = false := by simp [k]
  rw [decide_eq_true k] at HN
  obtain rfl : nb = fb := by rw [HN.out]; simp
  clear k HN
  go_enter Tryz.func39, Tryz.ntmps39
  go_wp2_with (refine wpList_load_blkG (by rfl) 81 (.tmp 9) rfl w.heap.size 2 9 HEn.out e.o.cs (by rfl) (en_part e) Tryz.underlying81 infoOuC (by show 11 ≤ 11; omega) ?_)
  refine (HFI _).out.mono ?_
  rintro e' W ⟨rfl, hb⟩
  replace HEn := Lib.hid (HEn.out.bel hb)
  replace HR := Lib.hid (HR.out.bel hb)
  replace HB := Lib.hid (HB.out.trans (hb.mono HB.out.size))
  clear hb c2 HFI d
  cases nb with
  | true =>
   go_wp2_with (first
    | (refine wpList_load_blk rfl 89 (.tmp 1) rfl w.heap.size 0 11 HEn.out #[.string e.tx, .int .i64 e.out, .int .i64 e.o.kind, .int .u64 (e.o.am : Nat), .string e.o.key, .string e.o.gate, .int .i64 e.o.ex, .string e.o.anchor, .int .u64 (e.o.unit : Nat), .int .i64 e.o.tok, .string e.o.of_] (by rfl) (by rfl) Tryz.underlying89 infoEnt (Nat.le_refl 11) ?_)
    | (refine wpList_store_part rfl 103 (.tmp 2) (.tmp 16) rfl (w.heap.size + 1) 0 HR.out (newS e).cs (newS e).cs (by rfl) (by rfl) (Nat.le_refl 20) infoSta (stcs_one _) (st_over _ rfl) ?_; intro W6 hb6 hc6; have HT := Lib.hid hb6; have HC6 := Lib.hid hc6; clear hb6 hc6))
   exact bodyPost_ret (results_cell_row2 rfl _ HT.out rfl Tryz.underlying103 infoSta) rfl ⟨rfl, HB.out.trans (HC6.out.below HB.out.size (by simp))⟩
  | false =>
   go_wp2_with (refine wpList_store_part rfl 103 (.tmp 2) (.tmp 14) rfl (w.heap.size + 1) 0 HR.out zSt zSt (by rfl) (by rfl) (Nat.le_refl 20) infoSta zStO (zStV rfl) ?_; intro W6 hb6 hc6; have HT := Lib.hid hb6; have HC6 := Lib.hid hc6; clear hb6 hc6)
   exact bodyPost_ret (results_cell_row2 rfl _ HT.out rfl Tryz.underlying103 infoSta) rfl ⟨rfl, HB.out.trans (HC6.out.below HB.out.size (by simp))⟩
 ·have d : (e.o.kind != 2) = true := by simp [bne, beq_eq_false_iff_ne.2 k]
  rw [decide_eq_false k] at HN
  obtain rfl : nb = false := by rw [HN.out]; simp
  clear k HN HFI
  go_enter Tryz.func39, Tryz.ntmps39
  go_wp2_with (refine wpList_store_part rfl 103 (.tmp 2) (.tmp 14) rfl (w.heap.size + 1) 0 HR.out zSt zSt (by rfl) (by rfl) (Nat.le_refl 20) infoSta zStO (zStV rfl) ?_; intro W6 hb6 hc6; have HT := Lib.hid hb6; have HC6 := Lib.hid hc6; clear hb6 hc6)
  exact bodyPost_ret (results_cell_row2 rfl _ HT.out rfl Tryz.underlying103 infoSta) rfl ⟨rfl, HB.out.trans (HC6.out.below HB.out.size (by simp))⟩
def St.shut (s : St) : St := { s with closed := true }
end
section
open Go.RowKit Go.Maps
end
section
open Go.RowKit Go.Maps
end
section
open Go.RowKit Go.Maps
def cutN (s : ByteArray) (n : Nat) : Nat := if n < s.size then n else s.size
def cutT (s : ByteArray) (n : Nat) : ByteArray := s.extract 0 (cutN s n)
theorem cutN_le (s : ByteArray) (n : Nat) : cutN s n ≤ s.size ∧ cutN s n ≤ n := by unfold cutN; split <;> omega
theorem cutT_size (s : ByteArray) (n : Nat) : (cutT s n).size = cutN s n := by
 have := cutN_le s n
 unfold cutT
 rw [ByteArray.size_extract]; omega
theorem cutN_if (s : ByteArray) (n : Nat) : (if (n : Int) < (s.size : Int) then (n : Int) else (s.size : Int)) = (cutN s n : Int) := by
 unfold cutN
 by_cases h : n < s.size
 ·rw [if_pos h, if_pos (by omega)]
 ·rw [if_neg h, if_neg (by omega)]
theorem cutN_if40 (s : ByteArray) : (if (40 : Int) < (s.size : Int) then (40 : Int) else (s.size : Int)) = (cutN s 40 : Int) := cutN_if s 40
theorem cutN_if450 (s : ByteArray) : (if (450 : Int) < (s.size : Int) then (450 : Int) else (s.size : Int)) = (cutN s 450 : Int) := cutN_if s 450
def cutO (o : Ou) : Ou := { o with key := cutT o.key 40, gate := cutT o.gate 40, anchor := cutT o.anchor 40, of_ := cutT o.of_ 40 }
set_option maxRecDepth 100000 in
set_option maxHeartbeats 1000000 in
theorem cutout_any (o : Ou) (w : World) : Calls Tryz.prog 54 #[.agg o.cs] w fun e w' => e = .returned (.agg (cutO o).cs) ∧ Below w.heap.size w w' := by
 have HX : Hid (Blk ((w.alloc (.cells o.cs 81)).alloc (.cells zOu.cs 81)) w.heap.size 81 o.cs) := Lib.hid ((Blk.new _ _ _).alloc _)
 have HR : Hid (Blk ((w.alloc (.cells o.cs 81)).alloc (.cells zOu.cs 81)) (w.heap.size + 1) 81 zOu.cs) := Blk.newAt (by simp)
 have HB : Hid (Below w.heap.size w ((w.alloc (.cells o.cs 81)).alloc (.cells zOu.cs 81))) := ((Below.refl _ _).alloc (Nat.le_refl _) _).alloc (by simp) _
 go_enter Tryz.func54, Tryz.ntmps54
 go_upto_region 1 with fail
 refine wp_gen fun X hX => ?_
 replace HX : Hid (Blk X w.heap.size 81 o.cs) := Lib.hid (by rw [hX]; exact HX.out)
 replace HR : Hid (Blk X (w.heap.size + 1) 81 zOu.cs) := Lib.hid (by rw [hX]; exact HR.out)
 replace HB : Hid (Below w.heap.size w X) := Lib.hid (by rw [hX]; exact HB.out)
 clear hX
 have c2 : X.cell? ⟨w.heap.size, 2, none⟩ = some (.string o.key) := HX.out.cell 2
 have c3 : X.cell? ⟨w.heap.size, 3, none⟩ = some (.string o.gate) := HX.out.cell 3
 have c5 : X.cell? ⟨w.heap.size, 5, none⟩ = some (.string o.anchor) := HX.out.cell 5
 have c8 : X.cell? ⟨w.heap.size, 8, none⟩ = some (.string o.of_) := HX.out.cell 8
 have z2 : X.frozen? ⟨w.heap.size, 2, none⟩ = false := HX.out.frozen 2
 have z3 : X.frozen? ⟨w.heap.size, 3, none⟩ = false := HX.out.frozen 3
 have z5 : X.frozen? ⟨w.heap.size, 5, none⟩ = false := HX.out.frozen 5
 have z8 : X.frozen? ⟨w.heap.size, 8, none⟩ = false := HX.out.frozen 8
 have l2 := (cutN_le o.key 40).1
 have l3 := (cutN_le o.gate 40).1
 have l5 := (cutN_le o.anchor 40).1
 have l8 := (cutN_le o.of_ 40).1
 have HXf : Hid (Blk ((((X.setCell ⟨w.heap.size, 2, none⟩ (.string (o.key.extract 0 (cutN o.key 40)))).setCell ⟨w.heap.size, 3, none⟩ (.string (o.gate.extract 0 (cutN o.gate 40)))).setCell ⟨w.heap.size, 5, none⟩ (.string (o.anchor.extract 0 (cutN o.anchor 40)))).setCell ⟨w.heap.size, 8, none⟩ (.string (o.of_.extract 0 (cutN o.of_ 40)))) w.heap.size 81 (cutO o).cs) := Lib.hid ((((HX.out.set_ 2 _).set_ 3 _).set_ 5 _).set_ 8 _)
 have HRf : Hid (Blk ((((X.setCell ⟨w.heap.size, 2, none⟩ (.string (o.key.extract 0 (cutN o.key 40)))).setCell ⟨w.heap.size, 3, none⟩ (.string (o.gate.extract 0 (cutN o.gate 40)))).setCell ⟨w.heap.size, 5, none⟩ (.string (o.anchor.extract 0 (cutN o.anchor 40)))).setCell ⟨w.heap.size, 8, none⟩ (.string (o.of_.extract 0 (cutN o.of_ 40)))) (w.heap.size + 1) 81 zOu.cs) := Lib.hid ((((HR.out.far (p := ⟨w.heap.size, 2, none⟩) (by simp) _).far (p := ⟨w.heap.size, 3, none⟩) (by simp) _).far (p := ⟨w.heap.size, 5, none⟩) (by simp) _).far (p := ⟨w.heap.size, 8, none⟩) (by simp) _)
 have HBf : Hid (Below w.heap.size w ((((X.setCell ⟨w.heap.size, 2, none⟩ (.string (o.key.extract 0 (cutN o.key 40)))).setCell ⟨w.heap.size, 3, none⟩ (.string (o.gate.extract 0 (cutN o.gate 40)))).setCell ⟨w.heap.size, 5, none⟩ (.string (o.anchor.extract 0 (cutN o.anchor 40)))).setCell ⟨w.heap.size, 8, none⟩ (.string (o.of_.extract 0 (cutN o.of_ 40))))) := (((HB.out.setCell (by simp) _).setCell (by simp) _).setCell (by simp) _).setCell (by simp) _
 clear HX HR HB
 go_upto_region 5 with fail
 simp only [cutN_if40, Int.toNat_natCast]
 clear c2 c3 c5 c8 z2 z3 z5 z8 l2 l3 l5 l8
 go_wp2_with (first
  | (refine wpList_load_blk rfl 81 (.tmp 1) rfl w.heap.size 0 9 HXf.out (cutO o).cs (by rfl) (by rfl) Tryz.underlying81 infoOuC (Nat.le_refl 9) ?_)
  | (refine wpList_store_part rfl 81 (.tmp 2) (.tmp 35) rfl (w.heap.size + 1) 0 HRf.out (cutO o).cs (cutO o).cs (by rfl) (by rfl) (Nat.le_refl 9) infoOuC (oucs_one _) (ou_over _ rfl) ?_; intro W6 hb6 hc6; have HT := Lib.hid hb6; have HC6 := Lib.hid hc6; clear hb6 hc6))
 exact bodyPost_ret (results_cell_row rfl _ _ (w.heap.size + 1) 81 _ (0, 0) _ rfl HT.out Tryz.underlying81 rfl infoOuC) rfl ⟨rfl, HBf.out.trans (HC6.out.below HBf.out.size (by simp))⟩
end
section
open Go.RowKit Go.Maps
def cutK (t : Tk) : Tk := { t with ch := cutT t.ch 40, com := cutT t.com 40, sig := cutT t.sig 450 }
theorem tkcsC_one (t : Tk) : t.cs.all (·.oneCell') = true := by
 rw [Array.all_eq_true']
 intro x hx
 simp only [Tk.cs, List.mem_toArray, List.mem_cons, List.not_mem_nil, or_false] at hx
 rcases hx with rfl | rfl | rfl | rfl | rfl | rfl | rfl | rfl <;> rfl
theorem tkC_over (t : Tk) {cs : Array Value} (h : cs.size = 8) : over cs 0 t.cs.toList = t.cs := (over_full t.cs.toList cs (by rw [h]; rfl)).trans (Array.toArray_toList ..)
set_option maxRecDepth 100000 in
set_option maxHeartbeats 1000000 in
theorem cutticket_any (t : Tk) (w : World) : Calls Tryz.prog 183 #[.agg t.cs] w fun e w' => e = .returned (.agg (cutK t).cs) ∧ Below w.heap.size w w' := by
 have HX : Hid (Blk ((w.alloc (.cells t.cs 120)).alloc (.cells zTk0.cs 120)) w.heap.size 120 t.cs) := Lib.hid ((Blk.new _ _ _).alloc _)
 have HR : Hid (Blk ((w.alloc (.cells t.cs 120)).alloc (.cells zTk0.cs 120)) (w.heap.size + 1) 120 zTk0.cs) := Blk.newAt (by simp)
 have HB : Hid (Below w.heap.size w ((w.alloc (.cells t.cs 120)).alloc (.cells zTk0.cs 120))) := ((Below.refl _ _).alloc (Nat.le_refl _) _).alloc (by simp) _
 go_enter Tryz.func183, Tryz.ntmps183
 go_upto_region 1 with fail
 refine wp_gen fun X hX => ?_
 replace HX : Hid (Blk X w.heap.size 120 t.cs) := Lib.hid (by rw [hX]; exact HX.out)
 replace HR : Hid (Blk X (w.heap.size + 1) 120 zTk0.cs) := Lib.hid (by rw [hX]; exact HR.out)
 replace HB : Hid (Below w.heap.size w X) := Lib.hid (by rw [hX]; exact HB.out)
 clear hX
 have c0 : X.cell? ⟨w.heap.size, 0, none⟩ = some (.string t.ch) := HX.out.cell 0
 have c5 : X.cell? ⟨w.heap.size, 5, none⟩ = some (.string t.com) := HX.out.cell 5
 have c7 : X.cell? ⟨w.heap.size, 7, none⟩ = some (.string t.sig) := HX.out.cell 7
 have z0 : X.frozen? ⟨w.heap.size, 0, none⟩ = false := HX.out.frozen 0
 have z5 : X.frozen? ⟨w.heap.size, 5, none⟩ = false := HX.out.frozen 5
 have z7 : X.frozen? ⟨w.heap.size, 7, none⟩ = false := HX.out.frozen 7
 have l0 := (cutN_le t.ch 40).1
 have l5 := (cutN_le t.com 40).1
 have l7 := (cutN_le t.sig 450).1
 have HXf : Hid (Blk (((X.setCell ⟨w.heap.size, 0, none⟩ (.string (t.ch.extract 0 (cutN t.ch 40)))).setCell ⟨w.heap.size, 5, none⟩ (.string (t.com.extract 0 (cutN t.com 40)))).setCell ⟨w.heap.size, 7, none⟩ (.string (t.sig.extract 0 (cutN t.sig 450)))) w.heap.size 120 (cutK t).cs) := Lib.hid (((HX.out.set_ 0 _).set_ 5 _).set_ 7 _)
 have HRf : Hid (Blk (((X.setCell ⟨w.heap.size, 0, none⟩ (.string (t.ch.extract 0 (cutN t.ch 40)))).setCell ⟨w.heap.size, 5, none⟩ (.string (t.com.extract 0 (cutN t.com 40)))).setCell ⟨w.heap.size, 7, none⟩ (.string (t.sig.extract 0 (cutN t.sig 450)))) (w.heap.size + 1) 120 zTk0.cs) := Lib.hid (((HR.out.far (p := ⟨w.heap.size, 0, none⟩) (by simp) _).far (p := ⟨w.heap.size, 5, none⟩) (by simp) _).far (p := ⟨w.heap.size, 7, none⟩) (by simp) _)
 have HBf : Hid (Below w.heap.size w (((X.setCell ⟨w.heap.size, 0, none⟩ (.string (t.ch.extract 0 (cutN t.ch 40)))).setCell ⟨w.heap.size, 5, none⟩ (.string (t.com.extract 0 (cutN t.com 40)))).setCell ⟨w.heap.size, 7, none⟩ (.string (t.sig.extract 0 (cutN t.sig 450))))) := ((HB.out.setCell (by simp) _).setCell (by simp) _).setCell (by simp) _
 clear HX HR HB
 go_upto_region 4 with fail
 simp only [cutN_if40, cutN_if450, Int.toNat_natCast]
 clear c0 c5 c7 z0 z5 z7 l0 l5 l7
 go_wp2_with (first
  | (refine wpList_load_blk rfl 120 (.tmp 1) rfl w.heap.size 0 8 HXf.out (cutK t).cs (by rfl) (by rfl) Tryz.underlying120 infoTk' (Nat.le_refl 8) ?_)
  | (refine wpList_store_part rfl 120 (.tmp 2) (.tmp 27) rfl (w.heap.size + 1) 0 HRf.out (cutK t).cs (cutK t).cs (by rfl) (by rfl) (Nat.le_refl 8) infoTk' (tkcsC_one _) (tkC_over _ rfl) ?_; intro W6 hb6 hc6; have HT := Lib.hid hb6; have HC6 := Lib.hid hc6; clear hb6 hc6))
 exact bodyPost_ret (results_cell_row rfl _ _ (w.heap.size + 1) 120 _ (0, 0) _ rfl HT.out Tryz.underlying120 rfl infoTk') rfl ⟨rfl, HBf.out.trans (HC6.out.below HBf.out.size (by simp))⟩
def cutW (x : Wn) : Wn := ⟨cutK x.t, cutT x.salt 40, x.drawn⟩
end
section
open Go.RowKit Go.Maps
theorem cutticket_x (t : Tk) (w : World) : Calls Tryz.prog 183 #[.agg t.cs] w fun e w' => e = .returned (.agg #[.string (cutT t.ch 40), .int .u64 (t.ser : Nat), .int .u64 (t.face : Nat), .int .u64 (t.wins : Nat), .int .u64 (t.many : Nat), .string (cutT t.com 40), .int .u64 (t.cl : Nat), .string (cutT t.sig 450)]) ∧ Below w.heap.size w w' := cutticket_any t w
theorem cutout_x (o : Ou) (w : World) : Calls Tryz.prog 54 #[.agg o.cs] w fun e w' => e = .returned (.agg #[.int .i64 o.kind, .int .u64 (o.am : Nat), .string (cutT o.key 40), .string (cutT o.gate 40), .int .i64 o.ex, .string (cutT o.anchor 40), .int .u64 (o.unit : Nat), .int .i64 o.tok, .string (cutT o.of_ 40)]) ∧ Below w.heap.size w w' := cutout_any o w
theorem wn_tk (x : Wn) : x.cs.extract 0 (0 + 8) = x.t.cs := by rfl
set_option maxRecDepth 100000 in
set_option maxHeartbeats 500000 in
theorem cutwin_any (x : Wn) (w0 : World) : Calls Tryz.prog 143 #[.agg x.cs] w0 fun e w' => e = .returned (.agg (cutW x).cs) ∧ Below w0.heap.size w0 w' := by
 have HX : Hid (Blk ((w0.alloc (.cells x.cs 122)).alloc (.cells zWn.cs 122)) w0.heap.size 122 x.cs) := Lib.hid ((Blk.new _ _ _).alloc _)
 have HR : Hid (Blk ((w0.alloc (.cells x.cs 122)).alloc (.cells zWn.cs 122)) (w0.heap.size + 1) 122 zWn.cs) := Blk.newAt (by simp)
 have HB : Hid (Below w0.heap.size w0 ((w0.alloc (.cells x.cs 122)).alloc (.cells zWn.cs 122))) := ((Below.refl _ _).alloc (Nat.le_refl _) _).alloc (by simp) _
 have l8 := (cutN_le x.salt 40).1
 go_enter Tryz.func143, Tryz.ntmps143
 go_upto_region 1 with fail
 refine wp_gen fun X0 hX => ?_
 replace HX : Hid (Blk X0 w0.heap.size 122 x.cs) := Lib.hid (by rw [hX]; exact HX.out)
 replace HR : Hid (Blk X0 (w0.heap.size + 1) 122 zWn.cs) := Lib.hid (by rw [hX]; exact HR.out)
 replace HB : Hid (Below w0.heap.size w0 X0) := Lib.hid (by rw [hX]; exact HB.out)
 clear hX
 refine wp_region_held_drew (S := fun W => Hid (Blk W w0.heap.size 122 x.cs)) (by kernel_rfl) (Lib.hid (HX.out.drewN 1)) (fun hS => ?_)
 replace HX : Hid (Blk X0.drew w0.heap.size 122 x.cs) := Lib.hid (HX.out.drewN 1)
 replace HR : Hid (Blk X0.drew (w0.heap.size + 1) 122 zWn.cs) := Lib.hid (HR.out.drewN 1)
 replace HB : Hid (Below w0.heap.size w0 X0.drew) := HB.out.drew
 refine wpAnyH_genT fun X hX => ?_
 rw [← hX] at HX HR HB hS
 clear hX
 refine wpAnyH_take (i := 0) (v := ?_) rfl (by kernel_rfl) (by kernel_rfl) (by kernel_rfl) (fun _ _ _ h => h) (Or.inl ⟨by rfl, ?_⟩) hS ?_
 rotate_left
 ·(intro w _; go_simp; try with_reducible rfl)
 refine wpAnyH_take (i := 1) (v := .agg x.t.cs) rfl (by kernel_rfl) (by kernel_rfl) (by kernel_rfl) (fun _ _ _ h => h) (yields_blk (by rfl) 120 (.tmp 3) (by rfl) w0.heap.size 0 8 (t := 122) (cs := x.cs) (fun W h => h.out) x.t.cs (by rfl) (wn_tk x) Tryz.underlying120 infoTk' (by show 8 ≤ 10; omega)) hS ?_
 refine wpAnyH_take (i := 3) (v := ?_) rfl (by kernel_rfl) (by kernel_rfl) (by kernel_rfl) (fun _ _ _ h => h) (Or.inl ⟨by rfl, ?_⟩) hS ?_
 rotate_left
 ·(intro w _; go_simp; try with_reducible rfl)
 refine wpAnyH_take (i := 4) (v := ?_) rfl (by kernel_rfl) (by kernel_rfl) (by kernel_rfl) (fun _ _ _ h => h) (Or.inl ⟨by rfl, ?_⟩) hS ?_
 rotate_left
 ·(intro w hS'; have hcell := (show World.cell? _ ⟨w0.heap.size, 8, none⟩ = some (.string x.salt) from Blk.cell hS'.out 8); go_simp; try with_reducible rfl)
 refine wpAnyH_take (i := 5) (v := ?_) rfl (by kernel_rfl) (by kernel_rfl) (by kernel_rfl) (fun _ _ _ h => h) (Or.inl ⟨by rfl, ?_⟩) hS ?_
 rotate_left
 ·(intro w _; go_simp; try with_reducible rfl)
 refine wpAnyH_take (i := 6) (v := ?_) rfl (by kernel_rfl) (by kernel_rfl) (by kernel_rfl) (fun _ _ _ h => h) (Or.inl ⟨by rfl, ?_⟩) hS ?_
 rotate_left
 ·(intro w hS'; have hcell := (show World.cell? _ ⟨w0.heap.size, 8, none⟩ = some (.string x.salt) from Blk.cell hS'.out 8); go_simp; try with_reducible rfl)
 refine wpAnyH_take (i := 7) (v := ?_) rfl (by kernel_rfl) (by kernel_rfl) (by kernel_rfl) (fun _ _ _ h => h) (Or.inl ⟨by rfl, ?_⟩) hS ?_
 rotate_left
 ·(intro w _; go_simp; try with_reducible rfl)
 refine wpAnyH_take (i := 8) (v := .int .i64 ((cutN x.salt 40 : Nat) : Int)) rfl (by kernel_rfl) (by kernel_rfl) (by kernel_rfl) (fun _ _ _ h => h) (Or.inl ⟨by rfl, ?_⟩) hS ?_
 ·intro w _
  go_simp
  rw [cutN_if40]
 refine wpAnyH_take (i := 9) (v := ?_) rfl (by kernel_rfl) (by kernel_rfl) (by kernel_rfl) (fun _ _ _ h => h) (Or.inl ⟨by rfl, ?_⟩) hS ?_
 rotate_left
 ·(intro w _; go_simp; try with_reducible rfl)
 refine wpAnyH_take (i := 10) (v := ?_) rfl (by kernel_rfl) (by kernel_rfl) (by kernel_rfl) (fun _ _ _ h => h) (Or.inl ⟨by rfl, ?_⟩) hS ?_
 rotate_left
 ·(intro w _; go_simp; try with_reducible rfl)
 refine wpAnyH_take (i := 11) (v := ?_) rfl (by kernel_rfl) (by kernel_rfl) (by kernel_rfl) (fun _ _ _ h => h) (Or.inl ⟨by rfl, ?_⟩) hS ?_
 rotate_left
 ·(intro w hS'; have hcell := (show World.cell? _ ⟨w0.heap.size, 9, none⟩ = some (.int .u64 x.drawn) from Blk.cell hS'.out 9); go_simp; try with_reducible rfl)
 refine wpAnyH_ready (rs := [2]) (by kernel_rfl) (by simp) (AllReadyH.cons rfl (fun K hK => ?_) AllReadyH.nil)
 go_simp
 refine (cutticket_x x.t _).mono ?_
 rintro e W ⟨rfl, hb⟩
 replace HX := Lib.hid (HX.out.bel hb)
 replace HR := Lib.hid (HR.out.bel hb)
 replace HB := Lib.hid (HB.out.trans (hb.mono HB.out.size))
 clear hb hS
 go_simp
 refine hK.out _ _ HX (fun hS => ?_)
 clear hK K
 refine wpAnyH_take (i := 12) (v := ?_) rfl (by kernel_rfl) (by kernel_rfl) (by kernel_rfl) (fun _ _ _ h => h) (Or.inl ⟨by rfl, ?_⟩) hS ?_
 rotate_left
 ·(intro w _; go_simp; try with_reducible rfl)
 refine wpAnyH_ready (rs := [13]) (by kernel_rfl) (by simp) (AllReadyH.cons rfl (fun K hK => ?_) AllReadyH.nil)
 refine step_store_part (by rfl) 122 (.tmp 2) (.tmp 15) (by rfl) (w0.heap.size + 1) 0 HR.out (cutW x).cs (cutW x).cs (by rfl) (by rfl) (Nat.le_refl 10) infoWn (wncs_one _) (wncs_over zWn _) ?_
 intro W1 hb1 hc1
 have HT := Lib.hid hb1
 have HC := Lib.hid hc1
 clear hb1 hc1
 refine hK.out _ _ (Lib.hid (Blk.ch hS.out HC.out (by simp))) (fun _ => ?_)
 clear hK K hS
 refine wpAnyH_done (by kernel_rfl) ?_ _
 go_wp2_with fail
 exact bodyPost_ret (results_cell_row rfl _ _ (w0.heap.size + 1) 122 _ (0, 0) _ rfl HT.out Tryz.underlying122 rfl infoWn) rfl ⟨rfl, HB.out.trans (HC.out.below HB.out.size (by simp))⟩
end
section
open Go.RowKit Go.Maps
def cutE (e : En) : En := ⟨cutT e.tx 40, e.out, cutO e.o⟩
theorem en_ou (e : En) : e.cs.extract 2 (2 + 9) = e.o.cs := by rfl
set_option maxRecDepth 100000 in
set_option maxHeartbeats 1000000 in
theorem cut17_any (e0 : En) (w0 : World) : Calls Tryz.prog 125 #[.agg e0.cs] w0 fun e w' => e = .returned (.agg (cutE e0).cs) ∧ Below w0.heap.size w0 w' := by
 have HX : Hid (Blk ((w0.alloc (.cells e0.cs 89)).alloc (.cells zEn.cs 89)) w0.heap.size 89 e0.cs) := Lib.hid ((Blk.new _ _ _).alloc _)
 have HR : Hid (Blk ((w0.alloc (.cells e0.cs 89)).alloc (.cells zEn.cs 89)) (w0.heap.size + 1) 89 zEn.cs) := Blk.newAt (by simp)
 have HB : Hid (Below w0.heap.size w0 ((w0.alloc (.cells e0.cs 89)).alloc (.cells zEn.cs 89))) := ((Below.refl _ _).alloc (Nat.le_refl _) _).alloc (by simp) _
 have l8 := (cutN_le e0.tx 40).1
 go_enter Tryz.func125, Tryz.ntmps125
 go_upto_region 1 with fail
 refine wp_gen fun X0 hX => ?_
 replace HX : Hid (Blk X0 w0.heap.size 89 e0.cs) := Lib.hid (by rw [hX]; exact HX.out)
 replace HR : Hid (Blk X0 (w0.heap.size + 1) 89 zEn.cs) := Lib.hid (by rw [hX]; exact HR.out)
 replace HB : Hid (Below w0.heap.size w0 X0) := Lib.hid (by rw [hX]; exact HB.out)
 clear hX
 refine wp_region_held_drew (S := fun W => Hid (Blk W w0.heap.size 89 e0.cs)) (by kernel_rfl) (Lib.hid (HX.out.drewN 1)) (fun hS => ?_)
 replace HX : Hid (Blk X0.drew w0.heap.size 89 e0.cs) := Lib.hid (HX.out.drewN 1)
 replace HR : Hid (Blk X0.drew (w0.heap.size + 1) 89 zEn.cs) := Lib.hid (HR.out.drewN 1)
 replace HB : Hid (Below w0.heap.size w0 X0.drew) := HB.out.drew
 refine wpAnyH_genT fun X hX => ?_
 rw [← hX] at HX HR HB hS
 clear hX
 refine wpAnyH_take (i := 13) (v := ?_) rfl (by kernel_rfl) (by kernel_rfl) (by kernel_rfl) (fun _ _ _ h => h) (Or.inl ⟨by rfl, ?_⟩) hS ?_
 rotate_left
 ·(intro w _; go_simp; try with_reducible rfl)
 refine wpAnyH_take (i := 14) (v := .agg e0.o.cs) rfl (by kernel_rfl) (by kernel_rfl) (by kernel_rfl) (fun _ _ _ h => h) (yields_blk (by rfl) 81 (.tmp 16) (by rfl) w0.heap.size 2 9 (t := 89) (cs := e0.cs) (fun W h => h.out) e0.o.cs (by rfl) (en_ou e0) Tryz.underlying81 infoOuC (by show 11 ≤ 11; omega)) hS ?_
 refine wpAnyH_take (i := 0) (v := ?_) rfl (by kernel_rfl) (by kernel_rfl) (by kernel_rfl) (fun _ _ _ h => h) (Or.inl ⟨by rfl, ?_⟩) hS ?_
 rotate_left
 ·(intro w _; go_simp; try with_reducible rfl)
 refine wpAnyH_take (i := 1) (v := ?_) rfl (by kernel_rfl) (by kernel_rfl) (by kernel_rfl) (fun _ _ _ h => h) (Or.inl ⟨by rfl, ?_⟩) hS ?_
 rotate_left
 ·(intro w _; go_simp; try with_reducible rfl)
 refine wpAnyH_take (i := 2) (v := ?_) rfl (by kernel_rfl) (by kernel_rfl) (by kernel_rfl) (fun _ _ _ h => h) (Or.inl ⟨by rfl, ?_⟩) hS ?_
 rotate_left
 ·(intro w hS'; have hcell := (show World.cell? _ ⟨w0.heap.size, 0, none⟩ = some (.string e0.tx) from Blk.cell hS'.out 0); go_simp; try with_reducible rfl)
 refine wpAnyH_take (i := 3) (v := ?_) rfl (by kernel_rfl) (by kernel_rfl) (by kernel_rfl) (fun _ _ _ h => h) (Or.inl ⟨by rfl, ?_⟩) hS ?_
 rotate_left
 ·(intro w _; go_simp; try with_reducible rfl)
 refine wpAnyH_take (i := 4) (v := ?_) rfl (by kernel_rfl) (by kernel_rfl) (by kernel_rfl) (fun _ _ _ h => h) (Or.inl ⟨by rfl, ?_⟩) hS ?_
 rotate_left
 ·(intro w _; go_simp; try with_reducible rfl)
 refine wpAnyH_take (i := 5) (v := ?_) rfl (by kernel_rfl) (by kernel_rfl) (by kernel_rfl) (fun _ _ _ h => h) (Or.inl ⟨by rfl, ?_⟩) hS ?_
 rotate_left
 ·(intro w hS'; have hcell := (show World.cell? _ ⟨w0.heap.size, 0, none⟩ = some (.string e0.tx) from Blk.cell hS'.out 0); go_simp; try with_reducible rfl)
 refine wpAnyH_take (i := 6) (v := ?_) rfl (by kernel_rfl) (by kernel_rfl) (by kernel_rfl) (fun _ _ _ h => h) (Or.inl ⟨by rfl, ?_⟩) hS ?_
 rotate_left
 ·(intro w _; go_simp; try with_reducible rfl)
 refine wpAnyH_take (i := 7) (v := .int .i64 ((cutN e0.tx 40 : Nat) : Int)) rfl (by kernel_rfl) (by kernel_rfl) (by kernel_rfl) (fun _ _ _ h => h) (Or.inl ⟨by rfl, ?_⟩) hS ?_
 ·intro w _
  go_simp
  rw [cutN_if40]
 refine wpAnyH_take (i := 8) (v := ?_) rfl (by kernel_rfl) (by kernel_rfl) (by kernel_rfl) (fun _ _ _ h => h) (Or.inl ⟨by rfl, ?_⟩) hS ?_
 rotate_left
 ·(intro w _; go_simp; try with_reducible rfl)
 refine wpAnyH_take (i := 9) (v := ?_) rfl (by kernel_rfl) (by kernel_rfl) (by kernel_rfl) (fun _ _ _ h => h) (Or.inl ⟨by rfl, ?_⟩) hS ?_
 rotate_left
 ·(intro w _; go_simp; try with_reducible rfl)
 refine wpAnyH_take (i := 10) (v := ?_) rfl (by kernel_rfl) (by kernel_rfl) (by kernel_rfl) (fun _ _ _ h => h) (Or.inl ⟨by rfl, ?_⟩) hS ?_
 rotate_left
 ·(intro w _; go_simp; try with_reducible rfl)
 refine wpAnyH_take (i := 11) (v := ?_) rfl (by kernel_rfl) (by kernel_rfl) (by kernel_rfl) (fun _ _ _ h => h) (Or.inl ⟨by rfl, ?_⟩) hS ?_
 rotate_left
 ·(intro w hS'; have hcell := (show World.cell? _ ⟨w0.heap.size, 1, none⟩ = some (.int .i64 e0.out) from Blk.cell hS'.out 1); go_simp; try with_reducible rfl)
 refine wpAnyH_take (i := 12) (v := ?_) rfl (by kernel_rfl) (by kernel_rfl) (by kernel_rfl) (fun _ _ _ h => h) (Or.inl ⟨by rfl, ?_⟩) hS ?_
 rotate_left
 ·(intro w _; go_simp; try with_reducible rfl)
 refine wpAnyH_ready (rs := [15]) (by kernel_rfl) (by simp) (AllReadyH.cons rfl (fun K hK => ?_) AllReadyH.nil)
 go_simp
 refine (cutout_x e0.o _).mono ?_
 rintro e W ⟨rfl, hb⟩
 replace HX := Lib.hid (HX.out.bel hb)
 replace HR := Lib.hid (HR.out.bel hb)
 replace HB := Lib.hid (HB.out.trans (hb.mono HB.out.size))
 clear hb hS
 go_simp
 refine hK.out _ _ HX (fun hS => ?_)
 clear hK K
 refine wpAnyH_take (i := 16) (v := ?_) rfl (by kernel_rfl) (by kernel_rfl) (by kernel_rfl) (fun _ _ _ h => h) (Or.inl ⟨by rfl, ?_⟩) hS ?_
 rotate_left
 ·(intro w _; go_simp; try with_reducible rfl)
 refine wpAnyH_ready (rs := [17]) (by kernel_rfl) (by simp) (AllReadyH.cons rfl (fun K hK => ?_) AllReadyH.nil)
 refine step_store_part (by rfl) 89 (.tmp 2) (.tmp 19) (by rfl) (w0.heap.size + 1) 0 HR.out (cutE e0).cs (cutE e0).cs (by rfl) (by rfl) (Nat.le_refl 11) infoEnt (encs_one _) (en_over _ rfl) ?_
 intro W1 hb1 hc1
 have HT := Lib.hid hb1
 have HC := Lib.hid hc1
 clear hb1 hc1
 refine hK.out _ _ (Lib.hid (Blk.ch hS.out HC.out (by simp))) (fun _ => ?_)
 clear hK K hS
 refine wpAnyH_done (by kernel_rfl) ?_ _
 go_wp2_with fail
 exact bodyPost_ret (results_cell_row rfl _ _ (w0.heap.size + 1) 89 _ (0, 0) _ rfl HT.out Tryz.underlying89 rfl infoEnt) rfl ⟨rfl, HB.out.trans (HC.out.below HB.out.size (by simp))⟩
end
section
open Go.RowKit Go.Maps
/-- a call of a script -/
structure Op17 where
 kind : Int
 am : Nat
 s : ByteArray
 x : Wn
 e : En
 r : Nat
def Op17.cs (o : Op17) : Array Value := #[.int .i64 o.kind, .int .u64 (o.am : Nat), .string o.s, .string o.x.t.ch, .int .u64 (o.x.t.ser : Nat), .int .u64 (o.x.t.face : Nat), .int .u64 (o.x.t.wins : Nat), .int .u64 (o.x.t.many : Nat), .string o.x.t.com, .int .u64 (o.x.t.cl : Nat), .string o.x.t.sig, .string o.x.salt, .int .u64 (o.x.drawn : Nat),
 .string o.e.tx, .int .i64 o.e.out, .int .i64 o.e.o.kind, .int .u64 (o.e.o.am : Nat), .string o.e.o.key, .string o.e.o.gate, .int .i64 o.e.o.ex, .string o.e.o.anchor, .int .u64 (o.e.o.unit : Nat), .int .i64 o.e.o.tok, .string o.e.o.of_, .int .u64 (o.r : Nat)]
theorem op_win (o : Op17) : o.cs.extract 3 (3 + 10) = o.x.cs := by rfl
theorem op_en (o : Op17) : o.cs.extract 13 (13 + 11) = o.e.cs := by rfl
structure Op17.fit (o : Op17) : Prop where
 am : o.am < 18446744073709551616
 s : o.s.size ≤ 1000000
 x : o.x.fit
 eam : o.e.o.am < 18446744073709551616
 r : o.r < 18446744073709551616
/-- a state of a channel that was made -/
structure St.good (s : St) (mt : Nat) : Prop where
 fit : s.fit
 an : s.lock.o.anchor.size = 16
 tok : s.lock.o.tok = (mt : Int)
 mt : mt ≤ 4096
 tops : s.tops.length ≤ 900
 wins : s.wins.length ≤ 900
def playE (s : St) (mt : Nat) (o : Op17) : Int :=
 if o.kind = 0 then vouE s o.am o.s o.r else if o.kind = 1 then tokE s o.s mt o.r else if o.kind = 2 then ticE s o.x o.r else if o.kind = 3 then moreE s o.e (fitsB o.e.o) else 0
def playS (s : St) (mt : Nat) (o : Op17) : St :=
 if o.kind = 0 then s.vouch o.am o.s else if o.kind = 1 then s.token o.s (cntN s.lock.o.anchor o.s mt) else if o.kind = 2 then tickS s o.x else if o.kind = 3 then s.addtop o.e else s.shut
end
end Go.Proofs.YtjcinncphffgaaaGreat
