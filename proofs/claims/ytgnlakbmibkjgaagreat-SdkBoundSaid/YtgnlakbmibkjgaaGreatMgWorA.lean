/- note: Proof.paid, tokens, Right. -/
import Derived.Outline
import Derived.Test.YtgnlakbmibkjgaaGreatMgSdkA
import Derived.Test.YtgnlakbmibkjgaaGreatMgWonB
set_option linter.unusedVariables false
set_option linter.unusedSimpArgs false
namespace Go.Proofs.YtgnlakbmibkjgaaGreat
open Go.RowKit
theorem mulV_nn (a b : Nat) : 0 ≤ mulV a b := by
  unfold mulV
  split
  · exact Int.mul_nonneg (Int.natCast_nonneg _) (Int.natCast_nonneg _)
  · exact Int.le_refl 0
theorem emp_isE : ByteArray.empty.toList.isEmpty = true := by rw [Lib.toList_data]; rfl
structure Tm where
  chan : ByteArray
  client : ByteArray
  anchor : ByteArray
  unit : Nat
  tokens : Nat
def Tm.cs (t : Tm) : Array Value := #[.string t.chan, .string t.client, .string t.anchor, .int .u64 (t.unit : Nat), .int .i64 (t.tokens : Nat)]
structure Tm.ok (t : Tm) : Prop where
  chan : t.chan.size ≤ 4096
  anchor : t.anchor.size = 16
  unit : t.unit < 18446744073709551616
  tokens : t.tokens ≤ 4096
structure Pf where
  am : Nat
  sig : ByteArray
  tok : ByteArray
  A : Option Addr
  l : List Wn
  c : Nat
def Pf.cs (p : Pf) : Array Value := #[.int .u64 (p.am : Nat), .string p.sig, .string p.tok, .slice p.A p.l.length p.c]
def paidB (t : Tm) (p : Pf) : Bool := if 0 < p.am then verB t.client (vouchB t.chan p.am) p.sig else decide (p.sig = ByteArray.empty)
set_option maxRecDepth 100000 in
set_option maxHeartbeats 1000000 in
theorem paid_any (t : Tm) (p : Pf) (w : World) (ht : t.ok) (hs : p.sig.size ≤ 1000000) (ha : p.am < 18446744073709551616) :
    Calls Tryz.prog 101 #[.agg p.cs, .agg t.cs] w fun e w' => e = .returned (.tuple #[.int .u64 (if paidB t p then (p.am : Int) else 0), .int .i64 (if paidB t p then 0 else 10)]) ∧ Below w.heap.size w w' := by
  have HVO := fun W => Lib.hid (voucher_any t.chan p.am W ht.chan ha)
  have hvz : (vouchB t.chan p.am).size ≤ 900000 := by rw [vouchB_size]; have := ht.chan; omega
  have HVE := fun W => Lib.hid (verify_any t.client (vouchB t.chan p.am) p.sig W hs hvz)
  have HX := Lib.hid (Blk.alloc (Blk.new w 78 p.cs) (.cells t.cs 101))
  have HT : Hid (Blk ((w.alloc (.cells p.cs 78)).alloc (.cells t.cs 101)) (w.heap.size + 1) 101 t.cs) := Blk.newAt (by simp)
  have HA0 : Hid (Below w.heap.size w ((w.alloc (.cells p.cs 78)).alloc (.cells t.cs 101))) := ((Below.refl _ _).alloc (Nat.le_refl _) _).alloc (by simp) _
  have c0 : ((w.alloc (.cells p.cs 78)).alloc (.cells t.cs 101)).cell? ⟨w.heap.size, 0, none⟩ = some (.int .u64 p.am) := HX.out.cell 0
  have c1 : ((w.alloc (.cells p.cs 78)).alloc (.cells t.cs 101)).cell? ⟨w.heap.size, 1, none⟩ = some (.string p.sig) := HX.out.cell 1
  have hb := toList_beq p.sig ByteArray.empty
  by_cases h0 : 0 < p.am
  · have d0 : decide ((0 : Int) < (p.am : Int)) = true := decide_eq_true (by omega)
    have hp : paidB t p = verB t.client (vouchB t.chan p.am) p.sig := by unfold paidB; rw [if_pos h0]
    rw [hp]
    generalize verB t.client (vouchB t.chan p.am) p.sig = v at HVE ⊢
    generalize vouchB t.chan p.am = vo at HVO HVE
    have q0 := cell_rg c0
    have q1 := cell_rg c1
    have q2 := cell_rg (show ((w.alloc (.cells p.cs 78)).alloc (.cells t.cs 101)).cell? ⟨w.heap.size + 1, 0, none⟩ = some (.string t.chan) from HT.out.cell 0)
    have q3 := cell_rg (show ((w.alloc (.cells p.cs 78)).alloc (.cells t.cs 101)).cell? ⟨w.heap.size + 1, 1, none⟩ = some (.string t.client) from HT.out.cell 1)
    have HW0 := Lib.hid HX.out.lt
    have d0' : decide (0 < p.am) = true := decide_eq_true h0
    clear hp ht hs hvz
    go_enter Tryz.func101, Tryz.ntmps101
    go_wp2_with fail
    refine wp_region_quiet_below (by kernel_rfl) (by kernel_rfl) ?_
    repeat (first | go_big_quiet_skip | (go_big_quiet_want; first | (fail; go_big_quiet_on) | (go_big_quiet_op; first | go_big_quiet_on | go_big_quiet_call ((first
          | (go_at_call 61; exact Calls.rg fun W _ => (HVO W).out)
          | (go_at_call 70; exact Calls.rg fun W _ => (HVE W).out))))))
    refine wpQuiet_nil ?_
    intro W hp
    have hb := bel_regrown hp
    clear hp
    have u0 : W.cell? ⟨w.heap.size, 0, none⟩ = some (.int .u64 p.am) := Blk.cell (HX.out.bel hb) 0
    have HB := Lib.hid (HA0.out.trans (hb.mono HA0.out.size))
    clear hb q0 q1 q2 q3 c0 c1
    cases v <;>
    · go_wp2_with fail
      go_ret2
      exact ⟨rfl, HB.out⟩
  · have d0 : decide ((0 : Int) < (p.am : Int)) = false := decide_eq_false (by omega)
    have h1 : p.am = 0 := by omega
    have hp : paidB t p = decide (p.sig = ByteArray.empty) := by unfold paidB; rw [if_neg h0]
    rw [hp]
    have H1 := Lib.hid h1
    have d0' : decide (0 < p.am) = false := decide_eq_false h0
    by_cases hv : p.sig = ByteArray.empty
    · rw [decide_eq_true hv]
      have hb3 : p.sig.toList.isEmpty = true := by rw [hv]; exact emp_isE
      clear hp h0 ht hs hvz HVO HVE hb hv h1
      go_enter Tryz.func101, Tryz.ntmps101
      go_wp2_with fail
      go_ret2
      exact ⟨by simp [H1.out], HA0.out⟩
    · rw [decide_eq_false hv] at hb ⊢
      have hb3 : p.sig.toList.isEmpty = false := by
        cases h : p.sig.toList with
        | nil => rw [h] at hb; simp at hb
        | cons _ _ => rfl
      clear hp h0 ht hs hvz HVO HVE hb hv h1
      go_enter Tryz.func101, Tryz.ntmps101
      go_wp2_with fail
      go_ret2
      exact ⟨rfl, HA0.out⟩
/-- the tokens' worth: none, or how far the token leads -/
def TokR (t : Tm) (p : Pf) (w : World) (e : Ending) (w' : World) : Prop := ∃ (v : Nat) (f : Int), e = .returned (.tuple #[.int .u64 (v : Int), .int .i64 f]) ∧ Below w.heap.size w w' ∧
  ((p.tok = ByteArray.empty ∧ v = 0 ∧ f = 0) ∨ (p.tok.size ≠ 16 ∧ p.tok ≠ ByteArray.empty ∧ v = 0 ∧ f = 1) ∨ (p.tok.size = 16 ∧ ∃ n b, CntP t.anchor p.tok t.tokens n b ∧ (v : Int) = (if b then mulV n t.unit else 0) ∧ f = (if b then mulE n t.unit else 4)))
set_option maxRecDepth 100000 in
set_option maxHeartbeats 1000000 in
theorem tokens_any (t : Tm) (p : Pf) (w : World) (ht : t.ok) : Calls Tryz.prog 102 #[.agg p.cs, .agg t.cs] w (TokR t p w) := by
  have HX := Lib.hid (Blk.alloc (Blk.new w 78 p.cs) (.cells t.cs 101))
  have HT : Hid (Blk ((w.alloc (.cells p.cs 78)).alloc (.cells t.cs 101)) (w.heap.size + 1) 101 t.cs) := Blk.newAt (by simp)
  have HA0 : Hid (Below w.heap.size w ((w.alloc (.cells p.cs 78)).alloc (.cells t.cs 101))) := ((Below.refl _ _).alloc (Nat.le_refl _) _).alloc (by simp) _
  have c2 : ((w.alloc (.cells p.cs 78)).alloc (.cells t.cs 101)).cell? ⟨w.heap.size, 2, none⟩ = some (.string p.tok) := HX.out.cell 2
  have e2 : ((w.alloc (.cells p.cs 78)).alloc (.cells t.cs 101)).cell? ⟨w.heap.size + 1, 2, none⟩ = some (.string t.anchor) := HT.out.cell 2
  have e4 : ((w.alloc (.cells p.cs 78)).alloc (.cells t.cs 101)).cell? ⟨w.heap.size + 1, 4, none⟩ = some (.int .i64 t.tokens) := HT.out.cell 4
  have hb := toList_beq p.tok ByteArray.empty
  by_cases h0 : p.tok = ByteArray.empty
  · have hb3 : p.tok.toList.isEmpty = true := by rw [h0]; exact emp_isE
    have H0 := Lib.hid h0
    clear h0 hb ht
    go_enter Tryz.func102, Tryz.ntmps102
    go_wp2_with fail
    go_ret2
    exact ⟨0, 0, rfl, HA0.out, .inl ⟨H0.out, rfl, rfl⟩⟩
  · have hb3 : p.tok.toList.isEmpty = false := by
      rw [decide_eq_false h0] at hb
      cases h : p.tok.toList with
      | nil => rw [h] at hb; simp at hb
      | cons _ _ => rfl
    have H0 := Lib.hid h0
    clear h0 hb
    by_cases h1 : p.tok.size = 16
    · have HCN := fun W => Lib.hid (count_any t.anchor p.tok t.tokens W ht.tokens ht.anchor h1)
      have H1 := Lib.hid h1
      have HU := Lib.hid ht.unit
      have HTK := Lib.hid ht.tokens
      clear h1 ht
      go_enter Tryz.func102, Tryz.ntmps102
      go_wp2_with fail
      refine (HCN _).out.mono ?_
      rintro e w1 ⟨n, b, hp, rfl, hb1⟩
      have HB := Lib.hid (HA0.out.trans (hb1.mono HA0.out.size))
      have HP := Lib.hid hp
      have u3 : w1.cell? ⟨w.heap.size + 1, 3, none⟩ = some (.int .u64 t.unit) := Blk.cell (HT.out.bel hb1) 3
      have hn : n ≤ 4096 := Nat.le_trans hp.1 HTK.out
      clear hb1 hp
      cases b with
      | false =>
        go_wp2_with fail
        go_ret2
        exact ⟨0, 4, rfl, HB.out, .inr (.inr ⟨H1.out, n, false, HP.out, rfl, rfl⟩)⟩
      | true =>
        simp only [if_true]
        obtain ⟨v, hv⟩ : ∃ v : Nat, (v : Int) = mulV n t.unit := ⟨(mulV n t.unit).toNat, Int.toNat_of_nonneg (mulV_nn n t.unit)⟩
        have HPV := fun W => Lib.hid (pvalue_any n t.unit W (by omega) HU.out)
        rw [← hv] at HPV
        have HV := Lib.hid hv
        clear hv
        generalize hme : mulE n t.unit = me at HPV
        have HME : Hid (me = mulE n t.unit) := hme.symm
        clear hme
        go_wp2_with fail
        refine (HPV _).out.mono ?_
        rintro e w2 ⟨rfl, rfl⟩
        go_wp2_with fail
        go_ret2
        exact ⟨v, me, rfl, HB.out, .inr (.inr ⟨H1.out, n, true, HP.out, by rw [if_pos rfl]; exact HV.out, by rw [if_pos rfl]; exact HME.out⟩)⟩
    · have HCN := fun W => Lib.hid (count_bad t.anchor p.tok (t.tokens : Int) W (.inr h1))
      have H1 := Lib.hid h1
      clear h1 ht
      go_enter Tryz.func102, Tryz.ntmps102
      go_wp2_with fail
      refine (HCN _).out.mono ?_
      rintro e w1 ⟨rfl, hb1⟩
      have HB := Lib.hid (HA0.out.trans (hb1.mono HA0.out.size))
      clear hb1
      go_wp2_with fail
      go_ret2
      exact ⟨0, 1, rfl, HB.out, .inr (.inl ⟨H1.out, H0.out, rfl, rfl⟩)⟩
end Go.Proofs.YtgnlakbmibkjgaaGreat
