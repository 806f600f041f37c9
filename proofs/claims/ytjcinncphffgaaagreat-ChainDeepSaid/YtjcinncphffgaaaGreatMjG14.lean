/- note: Ticket.may, Won. note: Proof.paid, tokens, Right. -/
import Derived.Outline
import Derived.Test.YtjcinncphffgaaaGreatMjNote
import Derived.Test.YtjcinncphffgaaaGreatMjSdkA
import Derived.Test.YtjcinncphffgaaaGreatMjSdkB
import Derived.Test.YtjcinncphffgaaaGreatMjWonA
set_option linter.unusedVariables false
set_option linter.unusedSimpArgs false
namespace Go.Proofs.YtjcinncphffgaaaGreat
open Go.RowKit
def tmayB (t : Tk) : Bool := decide (t.ch.size = 16) && decide (t.com.size = 16) && decide (t.sig.size ≤ 400)
set_option maxRecDepth 100000 in
set_option maxHeartbeats 1000000 in
theorem tmay_any (t : Tk) (w : World) : Calls Tryz.prog 150 #[.agg t.cs] w fun e w' => e = .returned (.bool (tmayB t)) ∧ Below w.heap.size w w' := by
  obtain ⟨ch, ser, face, wins, many, com, cl, sig⟩ := t
  simp only [Tk.cs, tmayB]
  by_cases h1 : ch.size = 16
  · have d1 : ((ch.size : Int) == 16) = true := by rw [h1]; rfl
    rw [decide_eq_true h1]
    by_cases h2 : com.size = 16
    · have d2 : ((com.size : Int) == 16) = true := by rw [h2]; rfl
      rw [decide_eq_true h2]
      have d3 : decide ((sig.size : Int) ≤ 400) = decide (sig.size ≤ 400) := by rw [decide_eq_decide]; omega
      generalize decide (sig.size ≤ 400) = d at d3 ⊢
      simp only [Bool.true_and]
      clear h1 h2
      go_enter Tryz.func150, Tryz.ntmps150
      go_wp2_with fail
      go_ret
      exact ⟨rfl, (Below.refl _ _).alloc (Nat.le_refl _) _⟩
    · have d2 : ((com.size : Int) == 16) = false := beq_eq_false_iff_ne.2 (by omega)
      rw [decide_eq_false h2]
      simp only [Bool.and_false, Bool.false_and]
      clear h1 h2
      go_enter Tryz.func150, Tryz.ntmps150
      go_wp2_with fail
      go_ret
      exact ⟨rfl, (Below.refl _ _).alloc (Nat.le_refl _) _⟩
  · have d1 : ((ch.size : Int) == 16) = false := beq_eq_false_iff_ne.2 (by omega)
    rw [decide_eq_false h1]
    simp only [Bool.false_and]
    clear h1
    go_enter Tryz.func150, Tryz.ntmps150
    go_wp2_with fail
    go_ret
    exact ⟨rfl, (Below.refl _ _).alloc (Nat.le_refl _) _⟩
/-- a ticket with what was hidden -/
structure Wn where
  t : Tk
  salt : ByteArray
  drawn : Nat
def Wn.cs (x : Wn) : Array Value := #[.string x.t.ch, .int .u64 (x.t.ser : Nat), .int .u64 (x.t.face : Nat), .int .u64 (x.t.wins : Nat), .int .u64 (x.t.many : Nat), .string x.t.com, .int .u64 (x.t.cl : Nat), .string x.t.sig, .string x.salt, .int .u64 (x.drawn : Nat)]
/-- numbers that fit -/
structure Wn.fit (x : Wn) : Prop where
  ser : x.t.ser < 18446744073709551616
  face : x.t.face < 18446744073709551616
  wins : x.t.wins < 18446744073709551616
  many : x.t.many < 18446744073709551616
  cl : x.t.cl < 18446744073709551616
  drawn : x.drawn < 18446744073709551616
  salt : x.salt.size ≤ 1000000
def wonE (client : ByteArray) (x : Wn) : Int :=
  if tmayB x.t && winsOk x.drawn x.t.wins x.t.many then
    if verB client (textB x.t) x.t.sig then
      if x.t.com = comB x.salt x.drawn then
        if winsB x.drawn x.t.cl x.t.wins x.t.many then 0 else 13
      else 4
    else 10
  else 1
def wonV (client : ByteArray) (x : Wn) : Nat := if wonE client x = 0 then x.t.face else 0
theorem infoTk' : (Tryz.prog.info? 120).map (·.size) = some 8 := by kernel_rfl
theorem tmay_ok {x : Wn} (hf : x.fit) (h : tmayB x.t = true) : x.t.ok := by
  unfold tmayB at h
  simp at h
  exact ⟨by omega, hf.ser, hf.face, hf.wins, hf.many, by omega, hf.cl⟩
set_option maxRecDepth 100000 in
set_option maxHeartbeats 2000000 in
theorem won_any (client : ByteArray) (x : Wn) (w : World) (hf : x.fit) :
    Calls Tryz.prog 201 #[.string client, .agg x.cs] w fun e w' => e = .returned (.tuple #[.int .u64 (wonV client x : Nat), .int .i64 (wonE client x)]) ∧ Below w.heap.size w w' := by
  have HM := fun W => Lib.hid (tmay_any x.t W)
  have HX := Lib.hid (Blk.new w 122 x.cs)
  have HA0 : Hid (Below w.heap.size w (w.alloc (.cells x.cs 122))) := (Below.refl _ _).alloc (Nat.le_refl _) _
  have hsi : tmayB x.t = true → x.t.sig.size ≤ 1000000 := fun h => by unfold tmayB at h; simp at h; omega
  have HTO := Lib.hid (tmay_ok hf)
  have hs : ∀ i, (w.alloc (.cells x.cs 122)).cell? ⟨w.heap.size, i, none⟩ = x.cs[i]? := fun i => HX.out.cell i
  have c9 : (w.alloc (.cells x.cs 122)).cell? ⟨w.heap.size, 9, none⟩ = some (.int .u64 x.drawn) := hs 9
  have c6 : (w.alloc (.cells x.cs 122)).cell? ⟨w.heap.size, 6, none⟩ = some (.int .u64 x.t.cl) := hs 6
  have c3 : (w.alloc (.cells x.cs 122)).cell? ⟨w.heap.size, 3, none⟩ = some (.int .u64 x.t.wins) := hs 3
  have c4 : (w.alloc (.cells x.cs 122)).cell? ⟨w.heap.size, 4, none⟩ = some (.int .u64 x.t.many) := hs 4
  have h6 := hf.cl
  have h9 := hf.many
  clear hs
  by_cases hw : winsOk x.drawn x.t.wins x.t.many = true
  · have HWI := fun W => Lib.hid (wins_ok x.drawn x.t.cl x.t.wins x.t.many W h6 hw)
    clear h9
    cases hm : tmayB x.t with
    | false =>
      rw [hm] at HM
      rw [show wonE client x = 1 by unfold wonE; rw [hm]; simp, show wonV client x = 0 by unfold wonV wonE; rw [hm]; simp]
      clear hw hsi HTO h6 hf hm
      go_enter Tryz.func201, Tryz.ntmps201
      go_wp2_with fail
      refine (HWI _).out.mono ?_
      rintro e w1 ⟨rfl, rfl⟩
      clear c9 c6 c3 c4
      go_wp2_with (first | (refine wpList_load_blk rfl 120 (.tmp 24) rfl _ 0 8 HX.out (Tk.cs x.t) (by rfl) (by rfl) Tryz.underlying120 infoTk' (by show 8 ≤ 10; omega) ?_))
      refine (HM _).out.mono ?_
      rintro e w2 ⟨rfl, hb2⟩
      have HB : Hid (Below w.heap.size w w2) := HA0.out.trans (hb2.mono HA0.out.size)
      clear hb2
      go_wp2_with fail
      go_ret2
      exact ⟨rfl, HB.out⟩
    | true =>
      rw [hm] at HM
      have HSG := fun W => Lib.hid (signed_any client x.t W (HTO.out hm) (hsi hm))
      have HOP := fun W => Lib.hid (opens_any x.t.com x.salt x.drawn W hf.drawn hf.salt)
      have HE : Hid (wonE client x = if verB client (textB x.t) x.t.sig then (if decide (x.t.com = comB x.salt x.drawn) then (if winsB x.drawn x.t.cl x.t.wins x.t.many then 0 else 13) else 4) else 10) := by
        show _ = _
        unfold wonE
        rw [hm, hw]
        simp
      have HV : Hid (wonV client x = if wonE client x = 0 then x.t.face else 0) := rfl
      have c2 : Hid (x.cs[2]? = some (.int .u64 x.t.face)) := by show _ = _; rfl
      have c5 : Hid (x.cs[5]? = some (.string x.t.com)) := by show _ = _; rfl
      have c8 : Hid (x.cs[8]? = some (.string x.salt)) := by show _ = _; rfl
      have c9' : Hid (x.cs[9]? = some (.int .u64 x.drawn)) := by show _ = _; rfl
      generalize verB client (textB x.t) x.t.sig = v at HSG HE
      generalize decide (x.t.com = comB x.salt x.drawn) = o at HOP HE
      generalize winsB x.drawn x.t.cl x.t.wins x.t.many = b at HWI HE
      generalize wonE client x = ee at HE HV ⊢
      generalize wonV client x = vv at HV ⊢
      clear hw hsi HTO h6 hf hm
      go_enter Tryz.func201, Tryz.ntmps201
      go_wp2_with fail
      refine (HWI _).out.mono ?_
      rintro e w1 ⟨rfl, rfl⟩
      clear c9 c6 c3 c4
      go_wp2_with (first | (refine wpList_load_blk rfl 120 (.tmp 24) rfl _ 0 8 HX.out (Tk.cs x.t) (by rfl) (by rfl) Tryz.underlying120 infoTk' (by show 8 ≤ 10; omega) ?_))
      refine (HM _).out.mono ?_
      rintro e w2 ⟨rfl, hb2⟩
      replace HX := Lib.hid (HX.out.bel hb2)
      have HB : Hid (Below w.heap.size w w2) := HA0.out.trans (hb2.mono HA0.out.size)
      clear hb2
      go_wp2_with (first | (refine wpList_load_blk rfl 120 (.tmp 34) rfl _ 0 8 HX.out (Tk.cs x.t) (by rfl) (by rfl) Tryz.underlying120 infoTk' (by show 8 ≤ 10; omega) ?_))
      refine (HSG _).out.mono ?_
      rintro e w3 ⟨rfl, hb3⟩
      replace HX := Lib.hid (HX.out.bel hb3)
      replace HB := Lib.hid (HB.out.trans (hb3.mono HB.out.size))
      clear hb3
      cases v with
      | false =>
        go_wp2_with fail
        go_ret2
        rw [show ee = 10 by rw [HE.out]; rfl] at HV ⊢
        rw [show vv = 0 by rw [HV.out]; rfl]
        exact ⟨rfl, HB.out⟩
      | true =>
        have u5 : w3.cell? ⟨w.heap.size, 5, none⟩ = some (.string x.t.com) := (HX.out.cell 5).trans c5.out
        have u8 : w3.cell? ⟨w.heap.size, 8, none⟩ = some (.string x.salt) := (HX.out.cell 8).trans c8.out
        have u9 : w3.cell? ⟨w.heap.size, 9, none⟩ = some (.int .u64 x.drawn) := (HX.out.cell 9).trans c9'.out
        go_wp2_with fail
        refine (HOP _).out.mono ?_
        rintro e w4 ⟨rfl, hb4⟩
        replace HX := Lib.hid (HX.out.bel hb4)
        replace HB := Lib.hid (HB.out.trans (hb4.mono HB.out.size))
        clear hb4 u5 u8 u9
        cases o with
        | false =>
          go_wp2_with fail
          go_ret2
          rw [show ee = 4 by rw [HE.out]; rfl] at HV ⊢
          rw [show vv = 0 by rw [HV.out]; rfl]
          exact ⟨rfl, HB.out⟩
        | true =>
          cases b with
          | false =>
            go_wp2_with fail
            go_ret2
            rw [show ee = 13 by rw [HE.out]; rfl] at HV ⊢
            rw [show vv = 0 by rw [HV.out]; rfl]
            exact ⟨rfl, HB.out⟩
          | true =>
            have u2 : w4.cell? ⟨w.heap.size, 2, none⟩ = some (.int .u64 x.t.face) := (HX.out.cell 2).trans c2.out
            go_wp2_with fail
            go_ret2
            rw [show ee = 0 by rw [HE.out]; rfl] at HV ⊢
            rw [show vv = x.t.face by rw [HV.out]; rfl]
            exact ⟨rfl, HB.out⟩
  · have hw' : winsOk x.drawn x.t.wins x.t.many = false := by simpa using hw
    have HWI := fun W => Lib.hid (wins_no x.drawn x.t.cl x.t.wins x.t.many W h9 hw')
    rw [show wonE client x = 1 by unfold wonE; rw [hw']; simp, show wonV client x = 0 by unfold wonV wonE; rw [hw']; simp]
    clear hw hw' hsi HTO h6 h9 hf
    go_enter Tryz.func201, Tryz.ntmps201
    go_wp2_with fail
    refine (HWI _).out.mono ?_
    rintro e w1 ⟨rfl, rfl⟩
    clear c9 c6 c3 c4
    go_wp2_with (first | (refine wpList_load_blk rfl 120 (.tmp 24) rfl _ 0 8 HX.out (Tk.cs x.t) (by rfl) (by rfl) Tryz.underlying120 infoTk' (by show 8 ≤ 10; omega) ?_))
    refine (HM _).out.mono ?_
    rintro e w2 ⟨rfl, hb2⟩
    have HB : Hid (Below w.heap.size w w2) := HA0.out.trans (hb2.mono HA0.out.size)
    clear hb2
    generalize tmayB x.t = d
    cases d <;>
    · go_wp2_with fail
      go_ret2
      exact ⟨rfl, HB.out⟩
end Go.Proofs.YtjcinncphffgaaaGreat
namespace Go.Proofs.YtjcinncphffgaaaGreat
open Go.RowKit
theorem mulV_nn (a b : Nat) : 0 ≤ mulV a b := by
  unfold mulV
  split
  · exact Int.mul_nonneg (Int.natCast_nonneg _) (Int.natCast_nonneg _)
  · exact Int.le_refl 0
theorem emp_isE : ByteArray.empty.toList.isEmpty = true := by rw [Lib.toList_data]; rfl
structure Tm where
  chan : ByteArray
  client : ByteArray
  anchor : ByteArray
  unit : Nat
  tokens : Nat
def Tm.cs (t : Tm) : Array Value := #[.string t.chan, .string t.client, .string t.anchor, .int .u64 (t.unit : Nat), .int .i64 (t.tokens : Nat)]
structure Tm.ok (t : Tm) : Prop where
  chan : t.chan.size ≤ 4096
  anchor : t.anchor.size = 16
  unit : t.unit < 18446744073709551616
  tokens : t.tokens ≤ 4096
structure Pf where
  am : Nat
  sig : ByteArray
  tok : ByteArray
  A : Option Addr
  l : List Wn
  c : Nat
def Pf.cs (p : Pf) : Array Value := #[.int .u64 (p.am : Nat), .string p.sig, .string p.tok, .slice p.A p.l.length p.c]
def paidB (t : Tm) (p : Pf) : Bool := if 0 < p.am then verB t.client (vouchB t.chan p.am) p.sig else decide (p.sig = ByteArray.empty)
set_option maxRecDepth 100000 in
set_option maxHeartbeats 1000000 in
theorem paid_any (t : Tm) (p : Pf) (w : World) (ht : t.ok) (hs : p.sig.size ≤ 1000000) (ha : p.am < 18446744073709551616) :
    Calls Tryz.prog 194 #[.agg p.cs, .agg t.cs] w fun e w' => e = .returned (.tuple #[.int .u64 (if paidB t p then (p.am : Int) else 0), .int .i64 (if paidB t p then 0 else 10)]) ∧ Below w.heap.size w w' := by
  have HVO := fun W => Lib.hid (voucher_any t.chan p.am W ht.chan ha)
  have hvz : (vouchB t.chan p.am).size ≤ 900000 := by rw [vouchB_size]; have := ht.chan; omega
  have HVE := fun W => Lib.hid (verify_any t.client (vouchB t.chan p.am) p.sig W hs hvz)
  have HX := Lib.hid (Blk.alloc (Blk.new w 51 p.cs) (.cells t.cs 269))
  have HT : Hid (Blk ((w.alloc (.cells p.cs 51)).alloc (.cells t.cs 269)) (w.heap.size + 1) 269 t.cs) := Blk.newAt (by simp)
  have HA0 : Hid (Below w.heap.size w ((w.alloc (.cells p.cs 51)).alloc (.cells t.cs 269))) := ((Below.refl _ _).alloc (Nat.le_refl _) _).alloc (by simp) _
  have c0 : ((w.alloc (.cells p.cs 51)).alloc (.cells t.cs 269)).cell? ⟨w.heap.size, 0, none⟩ = some (.int .u64 p.am) := HX.out.cell 0
  have c1 : ((w.alloc (.cells p.cs 51)).alloc (.cells t.cs 269)).cell? ⟨w.heap.size, 1, none⟩ = some (.string p.sig) := HX.out.cell 1
  have hb := toList_beq p.sig ByteArray.empty
  by_cases h0 : 0 < p.am
  · have d0 : decide ((0 : Int) < (p.am : Int)) = true := decide_eq_true (by omega)
    have hp : paidB t p = verB t.client (vouchB t.chan p.am) p.sig := by unfold paidB; rw [if_pos h0]
    rw [hp]
    generalize verB t.client (vouchB t.chan p.am) p.sig = v at HVE ⊢
    generalize vouchB t.chan p.am = vo at HVO HVE
    have q0 := cell_rg c0
    have q1 := cell_rg c1
    have q2 := cell_rg (show ((w.alloc (.cells p.cs 51)).alloc (.cells t.cs 269)).cell? ⟨w.heap.size + 1, 0, none⟩ = some (.string t.chan) from HT.out.cell 0)
    have q3 := cell_rg (show ((w.alloc (.cells p.cs 51)).alloc (.cells t.cs 269)).cell? ⟨w.heap.size + 1, 1, none⟩ = some (.string t.client) from HT.out.cell 1)
    have HW0 := Lib.hid HX.out.lt
    have d0' : decide (0 < p.am) = true := decide_eq_true h0
    clear hp ht hs hvz
    go_enter Tryz.func194, Tryz.ntmps194
    go_wp2_with fail
    refine wp_region_quiet_below (by kernel_rfl) (by kernel_rfl) ?_
    repeat (first | go_big_quiet_skip | (go_big_quiet_want; first | (fail; go_big_quiet_on) | (go_big_quiet_op; first | go_big_quiet_on | go_big_quiet_call ((first
          | (go_at_call 42; exact Calls.rg fun W _ => (HVO W).out)
          | (go_at_call 26; exact Calls.rg fun W _ => (HVE W).out))))))
    refine wpQuiet_nil ?_
    intro W hp
    have hb := bel_regrown hp
    clear hp
    have u0 : W.cell? ⟨w.heap.size, 0, none⟩ = some (.int .u64 p.am) := Blk.cell (HX.out.bel hb) 0
    have HB := Lib.hid (HA0.out.trans (hb.mono HA0.out.size))
    clear hb q0 q1 q2 q3 c0 c1
    cases v <;>
    · go_wp2_with fail
      go_ret2
      exact ⟨rfl, HB.out⟩
  · have d0 : decide ((0 : Int) < (p.am : Int)) = false := decide_eq_false (by omega)
    have h1 : p.am = 0 := by omega
    have hp : paidB t p = decide (p.sig = ByteArray.empty) := by unfold paidB; rw [if_neg h0]
    rw [hp]
    have H1 := Lib.hid h1
    have d0' : decide (0 < p.am) = false := decide_eq_false h0
    by_cases hv : p.sig = ByteArray.empty
    · rw [decide_eq_true hv]
      have hb3 : p.sig.toList.isEmpty = true := by rw [hv]; exact emp_isE
      clear hp h0 ht hs hvz HVO HVE hb hv h1
      go_enter Tryz.func194, Tryz.ntmps194
      go_wp2_with fail
      go_ret2
      exact ⟨by simp [H1.out], HA0.out⟩
    · rw [decide_eq_false hv] at hb ⊢
      have hb3 : p.sig.toList.isEmpty = false := by
        cases h : p.sig.toList with
        | nil => rw [h] at hb; simp at hb
        | cons _ _ => rfl
      clear hp h0 ht hs hvz HVO HVE hb hv h1
      go_enter Tryz.func194, Tryz.ntmps194
      go_wp2_with fail
      go_ret2
      exact ⟨rfl, HA0.out⟩
/-- the tokens' worth: none, or how far the token leads -/
def TokR (t : Tm) (p : Pf) (w : World) (e : Ending) (w' : World) : Prop := ∃ (v : Nat) (f : Int), e = .returned (.tuple #[.int .u64 (v : Int), .int .i64 f]) ∧ Below w.heap.size w w' ∧
  ((p.tok = ByteArray.empty ∧ v = 0 ∧ f = 0) ∨ (p.tok.size ≠ 16 ∧ p.tok ≠ ByteArray.empty ∧ v = 0 ∧ f = 1) ∨ (p.tok.size = 16 ∧ ∃ n b, CntP t.anchor p.tok t.tokens n b ∧ (v : Int) = (if b then mulV n t.unit else 0) ∧ f = (if b then mulE n t.unit else 4)))
set_option maxRecDepth 100000 in
set_option maxHeartbeats 1000000 in
theorem tokens_any (t : Tm) (p : Pf) (w : World) (ht : t.ok) : Calls Tryz.prog 195 #[.agg p.cs, .agg t.cs] w (TokR t p w) := by
  have HX := Lib.hid (Blk.alloc (Blk.new w 51 p.cs) (.cells t.cs 269))
  have HT : Hid (Blk ((w.alloc (.cells p.cs 51)).alloc (.cells t.cs 269)) (w.heap.size + 1) 269 t.cs) := Blk.newAt (by simp)
  have HA0 : Hid (Below w.heap.size w ((w.alloc (.cells p.cs 51)).alloc (.cells t.cs 269))) := ((Below.refl _ _).alloc (Nat.le_refl _) _).alloc (by simp) _
  have c2 : ((w.alloc (.cells p.cs 51)).alloc (.cells t.cs 269)).cell? ⟨w.heap.size, 2, none⟩ = some (.string p.tok) := HX.out.cell 2
  have e2 : ((w.alloc (.cells p.cs 51)).alloc (.cells t.cs 269)).cell? ⟨w.heap.size + 1, 2, none⟩ = some (.string t.anchor) := HT.out.cell 2
  have e4 : ((w.alloc (.cells p.cs 51)).alloc (.cells t.cs 269)).cell? ⟨w.heap.size + 1, 4, none⟩ = some (.int .i64 t.tokens) := HT.out.cell 4
  have hb := toList_beq p.tok ByteArray.empty
  by_cases h0 : p.tok = ByteArray.empty
  · have hb3 : p.tok.toList.isEmpty = true := by rw [h0]; exact emp_isE
    have H0 := Lib.hid h0
    clear h0 hb ht
    go_enter Tryz.func195, Tryz.ntmps195
    go_wp2_with fail
    go_ret2
    exact ⟨0, 0, rfl, HA0.out, .inl ⟨H0.out, rfl, rfl⟩⟩
  · have hb3 : p.tok.toList.isEmpty = false := by
      rw [decide_eq_false h0] at hb
      cases h : p.tok.toList with
      | nil => rw [h] at hb; simp at hb
      | cons _ _ => rfl
    have H0 := Lib.hid h0
    clear h0 hb
    by_cases h1 : p.tok.size = 16
    · have HCN := fun W => Lib.hid (count_any t.anchor p.tok t.tokens W ht.tokens ht.anchor h1)
      have H1 := Lib.hid h1
      have HU := Lib.hid ht.unit
      have HTK := Lib.hid ht.tokens
      clear h1 ht
      go_enter Tryz.func195, Tryz.ntmps195
      go_wp2_with fail
      refine (HCN _).out.mono ?_
      rintro e w1 ⟨n, b, hp, rfl, hb1⟩
      have HB := Lib.hid (HA0.out.trans (hb1.mono HA0.out.size))
      have HP := Lib.hid hp
      have u3 : w1.cell? ⟨w.heap.size + 1, 3, none⟩ = some (.int .u64 t.unit) := Blk.cell (HT.out.bel hb1) 3
      have hn : n ≤ 4096 := Nat.le_trans hp.1 HTK.out
      clear hb1 hp
      cases b with
      | false =>
        go_wp2_with fail
        go_ret2
        exact ⟨0, 4, rfl, HB.out, .inr (.inr ⟨H1.out, n, false, HP.out, rfl, rfl⟩)⟩
      | true =>
        simp only [if_true]
        obtain ⟨v, hv⟩ : ∃ v : Nat, (v : Int) = mulV n t.unit := ⟨(mulV n t.unit).toNat, Int.toNat_of_nonneg (mulV_nn n t.unit)⟩
        have HPV := fun W => Lib.hid (pvalue_any n t.unit W (by omega) HU.out)
        rw [← hv] at HPV
        have HV := Lib.hid hv
        clear hv
        generalize hme : mulE n t.unit = me at HPV
        have HME : Hid (me = mulE n t.unit) := hme.symm
        clear hme
        go_wp2_with fail
        refine (HPV _).out.mono ?_
        rintro e w2 ⟨rfl, rfl⟩
        go_wp2_with fail
        go_ret2
        exact ⟨v, me, rfl, HB.out, .inr (.inr ⟨H1.out, n, true, HP.out, by rw [if_pos rfl]; exact HV.out, by rw [if_pos rfl]; exact HME.out⟩)⟩
    · have HCN := fun W => Lib.hid (count_bad t.anchor p.tok (t.tokens : Int) W (.inr h1))
      have H1 := Lib.hid h1
      clear h1 ht
      go_enter Tryz.func195, Tryz.ntmps195
      go_wp2_with fail
      refine (HCN _).out.mono ?_
      rintro e w1 ⟨rfl, hb1⟩
      have HB := Lib.hid (HA0.out.trans (hb1.mono HA0.out.size))
      clear hb1
      go_wp2_with fail
      go_ret2
      exact ⟨0, 1, rfl, HB.out, .inr (.inl ⟨H1.out, H0.out, rfl, rfl⟩)⟩
end Go.Proofs.YtjcinncphffgaaaGreat
