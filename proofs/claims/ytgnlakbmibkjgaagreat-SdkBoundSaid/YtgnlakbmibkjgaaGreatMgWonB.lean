/- note: Ticket.may, Won. -/
import Derived.Outline
import Derived.Test.YtgnlakbmibkjgaaGreatMgNote
import Derived.Test.YtgnlakbmibkjgaaGreatMgSdkA
import Derived.Test.YtgnlakbmibkjgaaGreatMgSdkB
import Derived.Test.YtgnlakbmibkjgaaGreatMgWonA
set_option linter.unusedVariables false
set_option linter.unusedSimpArgs false
namespace Go.Proofs.YtgnlakbmibkjgaaGreat
open Go.RowKit
theorem tkcs_get (t : Tk) : True := trivial
def tmayB (t : Tk) : Bool := decide (t.ch.size = 16) && decide (t.com.size = 16) && decide (t.sig.size ≤ 400)
set_option maxRecDepth 100000 in
set_option maxHeartbeats 1000000 in
theorem tmay_any (t : Tk) (w : World) : Calls Tryz.prog 191 #[.agg t.cs] w fun e w' => e = .returned (.bool (tmayB t)) ∧ Below w.heap.size w w' := by
  obtain ⟨ch, ser, face, wins, many, com, cl, sig⟩ := t
  simp only [Tk.cs, tmayB]
  by_cases h1 : ch.size = 16
  · have d1 : ((ch.size : Int) == 16) = true := by rw [h1]; rfl
    rw [decide_eq_true h1]
    by_cases h2 : com.size = 16
    · have d2 : ((com.size : Int) == 16) = true := by rw [h2]; rfl
      rw [decide_eq_true h2]
      have d3 : decide ((sig.size : Int) ≤ 400) = decide (sig.size ≤ 400) := by rw [decide_eq_decide]; omega
      generalize decide (sig.size ≤ 400) = d at d3 ⊢
      simp only [Bool.true_and]
      clear h1 h2
      go_enter Tryz.func191, Tryz.ntmps191
      go_wp2_with fail
      go_ret
      exact ⟨rfl, (Below.refl _ _).alloc (Nat.le_refl _) _⟩
    · have d2 : ((com.size : Int) == 16) = false := beq_eq_false_iff_ne.2 (by omega)
      rw [decide_eq_false h2]
      simp only [Bool.and_false, Bool.false_and]
      clear h1 h2
      go_enter Tryz.func191, Tryz.ntmps191
      go_wp2_with fail
      go_ret
      exact ⟨rfl, (Below.refl _ _).alloc (Nat.le_refl _) _⟩
  · have d1 : ((ch.size : Int) == 16) = false := beq_eq_false_iff_ne.2 (by omega)
    rw [decide_eq_false h1]
    simp only [Bool.false_and]
    clear h1
    go_enter Tryz.func191, Tryz.ntmps191
    go_wp2_with fail
    go_ret
    exact ⟨rfl, (Below.refl _ _).alloc (Nat.le_refl _) _⟩
/-- a ticket with what was hidden -/
structure Wn where
  t : Tk
  salt : ByteArray
  drawn : Nat
def Wn.cs (x : Wn) : Array Value := #[.string x.t.ch, .int .u64 (x.t.ser : Nat), .int .u64 (x.t.face : Nat), .int .u64 (x.t.wins : Nat), .int .u64 (x.t.many : Nat), .string x.t.com, .int .u64 (x.t.cl : Nat), .string x.t.sig, .string x.salt, .int .u64 (x.drawn : Nat)]
/-- numbers that fit -/
structure Wn.fit (x : Wn) : Prop where
  ser : x.t.ser < 18446744073709551616
  face : x.t.face < 18446744073709551616
  wins : x.t.wins < 18446744073709551616
  many : x.t.many < 18446744073709551616
  cl : x.t.cl < 18446744073709551616
  drawn : x.drawn < 18446744073709551616
  salt : x.salt.size ≤ 1000000
def wonE (client : ByteArray) (x : Wn) : Int :=
  if tmayB x.t && winsOk x.drawn x.t.wins x.t.many then
    if verB client (textB x.t) x.t.sig then
      if x.t.com = comB x.salt x.drawn then
        if winsB x.drawn x.t.cl x.t.wins x.t.many then 0 else 13
      else 4
    else 10
  else 1
def wonV (client : ByteArray) (x : Wn) : Nat := if wonE client x = 0 then x.t.face else 0
theorem infoTk' : (Tryz.prog.info? 43).map (·.size) = some 8 := by kernel_rfl
theorem tmay_ok {x : Wn} (hf : x.fit) (h : tmayB x.t = true) : x.t.ok := by
  unfold tmayB at h
  simp at h
  exact ⟨by omega, hf.ser, hf.face, hf.wins, hf.many, by omega, hf.cl⟩
set_option maxRecDepth 100000 in
set_option maxHeartbeats 2000000 in
theorem won_any (client : ByteArray) (x : Wn) (w : World) (hf : x.fit) :
    Calls Tryz.prog 193 #[.string client, .agg x.cs] w fun e w' => e = .returned (.tuple #[.int .u64 (wonV client x : Nat), .int .i64 (wonE client x)]) ∧ Below w.heap.size w w' := by
  have HM := fun W => Lib.hid (tmay_any x.t W)
  have HX := Lib.hid (Blk.new w 97 x.cs)
  have HA0 : Hid (Below w.heap.size w (w.alloc (.cells x.cs 97))) := (Below.refl _ _).alloc (Nat.le_refl _) _
  have hsi : tmayB x.t = true → x.t.sig.size ≤ 1000000 := fun h => by unfold tmayB at h; simp at h; omega
  have HTO := Lib.hid (tmay_ok hf)
  have hs : ∀ i, (w.alloc (.cells x.cs 97)).cell? ⟨w.heap.size, i, none⟩ = x.cs[i]? := fun i => HX.out.cell i
  have c9 : (w.alloc (.cells x.cs 97)).cell? ⟨w.heap.size, 9, none⟩ = some (.int .u64 x.drawn) := hs 9
  have c6 : (w.alloc (.cells x.cs 97)).cell? ⟨w.heap.size, 6, none⟩ = some (.int .u64 x.t.cl) := hs 6
  have c3 : (w.alloc (.cells x.cs 97)).cell? ⟨w.heap.size, 3, none⟩ = some (.int .u64 x.t.wins) := hs 3
  have c4 : (w.alloc (.cells x.cs 97)).cell? ⟨w.heap.size, 4, none⟩ = some (.int .u64 x.t.many) := hs 4
  have h6 := hf.cl
  have h9 := hf.many
  clear hs
  by_cases hw : winsOk x.drawn x.t.wins x.t.many = true
  · have HWI := fun W => Lib.hid (wins_ok x.drawn x.t.cl x.t.wins x.t.many W h6 hw)
    clear h9
    cases hm : tmayB x.t with
    | false =>
      rw [hm] at HM
      rw [show wonE client x = 1 by unfold wonE; rw [hm]; simp, show wonV client x = 0 by unfold wonV wonE; rw [hm]; simp]
      clear hw hsi HTO h6 hf hm
      go_enter Tryz.func193, Tryz.ntmps193
      go_wp2_with fail
      refine (HWI _).out.mono ?_
      rintro e w1 ⟨rfl, rfl⟩
      clear c9 c6 c3 c4
      go_wp2_with (first | (refine wpList_load_blk rfl 43 (.tmp 24) rfl _ 0 8 HX.out (Tk.cs x.t) (by rfl) (by rfl) Tryz.underlying43 infoTk' (by show 8 ≤ 10; omega) ?_))
      refine (HM _).out.mono ?_
      rintro e w2 ⟨rfl, hb2⟩
      have HB : Hid (Below w.heap.size w w2) := HA0.out.trans (hb2.mono HA0.out.size)
      clear hb2
      go_wp2_with fail
      go_ret2
      exact ⟨rfl, HB.out⟩
    | true =>
      rw [hm] at HM
      have HSG := fun W => Lib.hid (signed_any client x.t W (HTO.out hm) (hsi hm))
      have HOP := fun W => Lib.hid (opens_any x.t.com x.salt x.drawn W hf.drawn hf.salt)
      have HE : Hid (wonE client x = if verB client (textB x.t) x.t.sig then (if decide (x.t.com = comB x.salt x.drawn) then (if winsB x.drawn x.t.cl x.t.wins x.t.many then 0 else 13) else 4) else 10) := by
        show _ = _
        unfold wonE
        rw [hm, hw]
        simp
      have HV : Hid (wonV client x = if wonE client x = 0 then x.t.face else 0) := rfl
      have c2 : Hid (x.cs[2]? = some (.int .u64 x.t.face)) := by show _ = _; rfl
      have c5 : Hid (x.cs[5]? = some (.string x.t.com)) := by show _ = _; rfl
      have c8 : Hid (x.cs[8]? = some (.string x.salt)) := by show _ = _; rfl
      have c9' : Hid (x.cs[9]? = some (.int .u64 x.drawn)) := by show _ = _; rfl
      generalize verB client (textB x.t) x.t.sig = v at HSG HE
      generalize decide (x.t.com = comB x.salt x.drawn) = o at HOP HE
      generalize winsB x.drawn x.t.cl x.t.wins x.t.many = b at HWI HE
      generalize wonE client x = ee at HE HV ⊢
      generalize wonV client x = vv at HV ⊢
      clear hw hsi HTO h6 hf hm
      go_enter Tryz.func193, Tryz.ntmps193
      go_wp2_with fail
      refine (HWI _).out.mono ?_
      rintro e w1 ⟨rfl, rfl⟩
      clear c9 c6 c3 c4
      go_wp2_with (first | (refine wpList_load_blk rfl 43 (.tmp 24) rfl _ 0 8 HX.out (Tk.cs x.t) (by rfl) (by rfl) Tryz.underlying43 infoTk' (by show 8 ≤ 10; omega) ?_))
      refine (HM _).out.mono ?_
      rintro e w2 ⟨rfl, hb2⟩
      replace HX := Lib.hid (HX.out.bel hb2)
      have HB : Hid (Below w.heap.size w w2) := HA0.out.trans (hb2.mono HA0.out.size)
      clear hb2
      go_wp2_with (first | (refine wpList_load_blk rfl 43 (.tmp 34) rfl _ 0 8 HX.out (Tk.cs x.t) (by rfl) (by rfl) Tryz.underlying43 infoTk' (by show 8 ≤ 10; omega) ?_))
      refine (HSG _).out.mono ?_
      rintro e w3 ⟨rfl, hb3⟩
      replace HX := Lib.hid (HX.out.bel hb3)
      replace HB := Lib.hid (HB.out.trans (hb3.mono HB.out.size))
      clear hb3
      cases v with
      | false =>
        go_wp2_with fail
        go_ret2
        rw [show ee = 10 by rw [HE.out]; rfl] at HV ⊢
        rw [show vv = 0 by rw [HV.out]; rfl]
        exact ⟨rfl, HB.out⟩
      | true =>
        have u5 : w3.cell? ⟨w.heap.size, 5, none⟩ = some (.string x.t.com) := (HX.out.cell 5).trans c5.out
        have u8 : w3.cell? ⟨w.heap.size, 8, none⟩ = some (.string x.salt) := (HX.out.cell 8).trans c8.out
        have u9 : w3.cell? ⟨w.heap.size, 9, none⟩ = some (.int .u64 x.drawn) := (HX.out.cell 9).trans c9'.out
        go_wp2_with fail
        refine (HOP _).out.mono ?_
        rintro e w4 ⟨rfl, hb4⟩
        replace HX := Lib.hid (HX.out.bel hb4)
        replace HB := Lib.hid (HB.out.trans (hb4.mono HB.out.size))
        clear hb4 u5 u8 u9
        cases o with
        | false =>
          go_wp2_with fail
          go_ret2
          rw [show ee = 4 by rw [HE.out]; rfl] at HV ⊢
          rw [show vv = 0 by rw [HV.out]; rfl]
          exact ⟨rfl, HB.out⟩
        | true =>
          cases b with
          | false =>
            go_wp2_with fail
            go_ret2
            rw [show ee = 13 by rw [HE.out]; rfl] at HV ⊢
            rw [show vv = 0 by rw [HV.out]; rfl]
            exact ⟨rfl, HB.out⟩
          | true =>
            have u2 : w4.cell? ⟨w.heap.size, 2, none⟩ = some (.int .u64 x.t.face) := (HX.out.cell 2).trans c2.out
            go_wp2_with fail
            go_ret2
            rw [show ee = 0 by rw [HE.out]; rfl] at HV ⊢
            rw [show vv = x.t.face by rw [HV.out]; rfl]
            exact ⟨rfl, HB.out⟩
  · have hw' : winsOk x.drawn x.t.wins x.t.many = false := by simpa using hw
    have HWI := fun W => Lib.hid (wins_no x.drawn x.t.cl x.t.wins x.t.many W h9 hw')
    rw [show wonE client x = 1 by unfold wonE; rw [hw']; simp, show wonV client x = 0 by unfold wonV wonE; rw [hw']; simp]
    clear hw hw' hsi HTO h6 h9 hf
    go_enter Tryz.func193, Tryz.ntmps193
    go_wp2_with fail
    refine (HWI _).out.mono ?_
    rintro e w1 ⟨rfl, rfl⟩
    clear c9 c6 c3 c4
    go_wp2_with (first | (refine wpList_load_blk rfl 43 (.tmp 24) rfl _ 0 8 HX.out (Tk.cs x.t) (by rfl) (by rfl) Tryz.underlying43 infoTk' (by show 8 ≤ 10; omega) ?_))
    refine (HM _).out.mono ?_
    rintro e w2 ⟨rfl, hb2⟩
    have HB : Hid (Below w.heap.size w w2) := HA0.out.trans (hb2.mono HA0.out.size)
    clear hb2
    generalize tmayB x.t = d
    cases d <;>
    · go_wp2_with fail
      go_ret2
      exact ⟨rfl, HB.out⟩
end Go.Proofs.YtgnlakbmibkjgaaGreat
