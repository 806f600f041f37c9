/- note.Right, of any proof. -/
import Derived.Outline
import Derived.Test.YtgnlakbmibkjgaaGreatMgWorA
set_option linter.unusedVariables false
set_option linter.unusedSimpArgs false
namespace Go.Proofs.YtgnlakbmibkjgaaGreat
open Go.RowKit
def Wn.cl (x : Wn) : List Value := x.cs.toList
def zTk0 : Tk := ⟨ByteArray.empty, 0, 0, 0, 0, ByteArray.empty, 0, ByteArray.empty⟩
def zWn : Wn := ⟨zTk0, ByteArray.empty, 0⟩
theorem infoWn : (Tryz.prog.info? 97).map (·.size) = some 10 := by kernel_rfl
theorem wncs_one (x : Wn) : x.cs.all (·.oneCell') = true := by
  rw [Array.all_eq_true']
  intro v hv
  simp only [Wn.cs, List.mem_toArray, List.mem_cons, List.not_mem_nil, or_false] at hv
  rcases hv with rfl | rfl | rfl | rfl | rfl | rfl | rfl | rfl | rfl | rfl <;> rfl
theorem wncs_over (y x : Wn) : over y.cs 0 x.cs.toList = x.cs := (over_full x.cs.toList y.cs rfl).trans (Array.toArray_toList ..)
/-- one of a list of wins is read -/
theorem wpList_load_wn {ops : Array Oper} {rest : List Oper} {o : Oper} {a : Act} {w : World} {Q : Exit → Act → World → Prop} (hgd : o.guard = none) (x : Operand) (ho : o.op = .load 97 x) (b off : Nat) (hx : a.eval x = .pointer (some ⟨b, off, none⟩)) (y : Wn)
    (hc : ∀ j u, y.cl[j]? = some u → w.cell? ⟨b, off + j, none⟩ = some u) (h : wpList Tryz.prog ops Q rest (a.put o.dst (.agg y.cs)) w) : wpList Tryz.prog ops Q (o :: rest) a w := by
  refine wpList_load_mid (P := Tryz.prog) hgd 97 x ho b off hx y.cl _ hc Tryz.underlying97 rfl (by rw [infoWn]; rfl) ?_
  show wpList Tryz.prog ops Q rest (a.put o.dst (.agg y.cs.toList.toArray)) w
  rw [Array.toArray_toList]
  exact h
theorem bel_st' {V W : World} {o : Obj} (h : Ch [V.heap.size] (V.alloc o) W) : Below V.heap.size V W := ((Below.refl _ _).alloc (Nat.le_refl _) _).trans (h.below (by simp) (by simp))
def wmayB (x : Wn) : Bool := tmayB x.t && decide (x.salt.size ≤ 32)
def rightB (p : Pf) : Bool := p.l.all wmayB && decide (p.sig.size ≤ 400) && (decide (p.tok = ByteArray.empty) || decide (p.tok.size = 16)) && decide (p.l.length ≤ 3)
set_option maxRecDepth 100000 in
set_option maxHeartbeats 1000000 in
theorem right_any (p : Pf) (w : World) (hl : p.l.length ≤ 1000000) (hS : Sl w w.heap.size 10 Wn.cl p.A p.l) :
    Calls Tryz.prog 100 #[.agg p.cs] w fun e w' => e = .returned (.bool (rightB p)) ∧ Below w.heap.size w w' := by
  have HS := Lib.hid hS
  have HX := Lib.hid (Blk.new w 78 p.cs)
  have HA0 : Hid (Below w.heap.size w (w.alloc (.cells p.cs 78))) := (Below.refl _ _).alloc (Nat.le_refl _) _
  have hzx : w.heap.size < (w.alloc (.cells p.cs 78)).heap.size := HX.out.lt
  have c3 : (w.alloc (.cells p.cs 78)).cell? ⟨w.heap.size, 3, none⟩ = some (.slice p.A p.l.length p.c) := HX.out.cell 3
  have HXX : Hid (∀ W, Below (w.alloc (.cells p.cs 78)).heap.size (w.alloc (.cells p.cs 78)) W → Blk W w.heap.size 78 p.cs ∧ Below w.heap.size w W) := fun W hW => ⟨HX.out.bel hW, HA0.out.trans (hW.mono (by simp))⟩
  obtain ⟨A, hA⟩ : ∃ A, A = p.A := ⟨_, rfl⟩
  rw [← hA] at c3 HS
  have HA := Lib.hid hA
  clear hS hA
  go_enter Tryz.func100, Tryz.ntmps100
  go_wp2_with fail
  go_loopw [8] (fun i wr => ∃ k : Nat, k ≤ p.l.length ∧ i = .int .i64 k ∧ Hid ((p.l.take k).all wmayB = true) ∧ Hid (Below (w.alloc (.cells p.cs 78)).heap.size (w.alloc (.cells p.cs 78)) wr)) (fun i _ => p.l.length - (intOf i).toNat)
  case atStart => exact ⟨0, Nat.zero_le _, rfl, Lib.hid rfl, Below.refl _ _⟩
  case round =>
    obtain ⟨k, hk, rfl, HT, HB⟩ := hrel
    obtain ⟨hXr, hBw⟩ := HXX.out _ HB.out
    have HXr := Lib.hid hXr
    have HBw := Lib.hid hBw
    clear hXr hBw c3
    by_cases hlt : k < p.l.length
    · obtain ⟨ab, off, rfl, hbB, hc⟩ := (HS.out.below HBw.out).at_ hlt
      have HTS : Hid ((p.l.take (k + 1)).all wmayB = ((p.l.take k).all wmayB && wmayB p.l[k])) := by
        show _ = _
        rw [List.take_succ_eq_append_getElem hlt, List.all_append]
        simp
      have HBAD : Hid (wmayB p.l[k] = false → rightB p = false) := fun hbad => by
        unfold rightB
        have : p.l.all wmayB = false := by
          rw [List.all_eq_false]
          exact ⟨p.l[k], List.getElem_mem hlt, by rw [hbad]; simp⟩
        rw [this]; rfl
      generalize p.l[k] = x at hc HTS HBAD
      have HCC := Lib.hid hc
      have HM := fun W => Lib.hid (tmay_any x.t W)
      clear hc
      go_wp2_with (first
        | (refine wpList_load_wn rfl (.tmp 10) rfl ab (off + k * 10) (by rfl) x HCC.out ?_)
        | (refine wpList_store_part rfl 97 (.tmp 4) (.tmp 11) rfl wr.heap.size 0 (cs := zWn.cs) (Blk.new _ _ _) x.cs x.cs (by rfl) (by rfl) (Nat.le_refl 10) infoWn (wncs_one x) (wncs_over zWn x) ?_; intro W1 hb1 hc1; have HG := Lib.hid hb1; have hb := Lib.hid (bel_st' hc1); clear hb1 hc1)
        | (refine wpList_load_blk rfl 43 (.tmp 12) rfl wr.heap.size 0 8 HG.out (Tk.cs x.t) (by rfl) (by rfl) Tryz.underlying43 infoTk' (by show 8 ≤ 10; omega) ?_))
      refine (HM _).out.mono ?_
      rintro e W2 ⟨rfl, hb2⟩
      have HG2 := Lib.hid (HG.out.bel hb2)
      have HB2 := Lib.hid ((HB.out.trans (hb.out.mono HB.out.size)).trans (hb2.mono (Nat.le_trans HB.out.size hb.out.size)))
      have u8 : W2.cell? ⟨wr.heap.size, 8, none⟩ = some (.string x.salt) := HG2.out.cell 8
      have HWM : Hid (wmayB x = (tmayB x.t && decide (x.salt.size ≤ 32))) := rfl
      clear hb2 hb HG HCC
      generalize tmayB x.t = tm at HWM ⊢
      cases tm with
      | false =>
        go_wp2_with fail
        go_ret
        refine ⟨?_, (HXX.out _ HB2.out).2⟩
        have hf := HBAD.out (by rw [HWM.out]; rfl)
        rw [hf]
        rfl
      | true =>
        by_cases h32 : x.salt.size ≤ 32
        · have d32 : decide ((32 : Int) < (x.salt.size : Int)) = false := decide_eq_false (by omega)
          have H32 := Lib.hid h32
          clear h32
          go_wp2_with fail
          go_roundw
          case rel => exact ⟨k + 1, by omega, by go_num, Lib.hid (by rw [HTS.out, HT.out, HWM.out, decide_eq_true H32.out]; rfl), HB2⟩
          case measure => simp [intOf]; omega
        · have d32 : decide ((32 : Int) < (x.salt.size : Int)) = true := decide_eq_true (by omega)
          have H32 := Lib.hid h32
          clear h32
          go_wp2_with fail
          go_ret
          refine ⟨?_, (HXX.out _ HB2.out).2⟩
          have hf := HBAD.out (by rw [HWM.out, decide_eq_false H32.out]; rfl)
          rw [hf]
          rfl
    · have hkl : k = p.l.length := by omega
      subst hkl
      have HALL : Hid (p.l.all wmayB = true) := by have := HT.out; rwa [List.take_length] at this
      have v1 : wr.cell? ⟨w.heap.size, 1, none⟩ = some (.string p.sig) := HXr.out.cell 1
      have v2 : wr.cell? ⟨w.heap.size, 2, none⟩ = some (.string p.tok) := HXr.out.cell 2
      have v3 : wr.cell? ⟨w.heap.size, 3, none⟩ = some (.slice A p.l.length p.c) := by rw [HA.out]; exact HXr.out.cell 3
      have HRB : Hid (rightB p = (decide (p.sig.size ≤ 400) && (decide (p.tok = ByteArray.empty) || decide (p.tok.size = 16)) && decide (p.l.length ≤ 3))) := by
        show _ = _
        unfold rightB
        rw [HALL.out]; simp
      have e1 : decide ((p.sig.size : Int) ≤ 400) = decide (p.sig.size ≤ 400) := by rw [decide_eq_decide]; omega
      have e2 : p.tok.toList.isEmpty = decide (p.tok = ByteArray.empty) := by
        rw [← toList_beq]; cases h : p.tok.toList <;> simp
      have e3 : ((p.tok.size : Int) == 16) = decide (p.tok.size = 16) := by
        by_cases h : p.tok.size = 16
        · rw [decide_eq_true h, h]; rfl
        · rw [decide_eq_false h]; exact beq_eq_false_iff_ne.2 (by omega)
      have e4 : decide ((p.l.length : Int) ≤ 3) = decide (p.l.length ≤ 3) := by rw [decide_eq_decide]; omega
      generalize decide (p.sig.size ≤ 400) = b1 at e1 HRB
      generalize decide (p.tok = ByteArray.empty) = b2 at e2 HRB
      generalize decide (p.tok.size = 16) = b3 at e3 HRB
      generalize decide (p.l.length ≤ 3) = b4 at e4 HRB
      clear hlt hk
      cases b1 <;> cases b2 <;> cases b3 <;> cases b4 <;>
      · go_wp2_with fail
        go_ret
        exact ⟨by rw [HRB.out]; rfl, HBw.out⟩
end Go.Proofs.YtgnlakbmibkjgaaGreat
