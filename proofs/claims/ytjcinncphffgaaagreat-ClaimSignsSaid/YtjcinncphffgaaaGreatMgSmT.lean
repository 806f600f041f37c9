/- coin.Same of any two: whatever it says, of what is alike it says true. -/
import Derived.Outline
import Derived.Laws.StructEq
import Derived.Test.YtjcinncphffgaaaGreatMgG15
import Derived.Test.YtjcinncphffgaaaGreatMgK1
import Derived.Test.YtjcinncphffgaaaGreatMgN1
import Derived.Test.YtjcinncphffgaaaGreatMgSmC
set_option linter.unusedVariables false
set_option linter.unusedSimpArgs false
namespace Go.Proofs.YtjcinncphffgaaaGreat
open Go.RowKit Go.Maps
def eqTk (a b : Tk) : Bool := decide (a.ch = b.ch) && (decide (a.ser = b.ser) && (decide (a.face = b.face) && (decide (a.wins = b.wins) && (decide (a.many = b.many) && (decide (a.com = b.com) && (decide (a.cl = b.cl) && decide (a.sig = b.sig)))))))
set_option maxRecDepth 100000 in
set_option maxHeartbeats 2000000 in
theorem tkEqIn (W : World) (d : Nat) (a b : Tk) : (Op.equalIn (d + 2) 120 (.agg a.cs) (.agg b.cs)).run Tryz.prog W = .ok (eqTk a b) W := by
  rw [run_equalIn_struct W (d + 1) 120 _ _ (by kernel_rfl) (by kernel_rfl)]
  have u2 := Tryz.underlying48
  have u3 := Tryz.underlying9
  simp [Program.fieldsOf, Tryz.underlying120, Op.eqFields, go_sem, Tk.cs, toList_beq, int_nat_beq]
  unfold eqTk
  by_cases h1 : a.ch = b.ch
  · by_cases h2 : a.ser = b.ser
    · by_cases h3 : a.face = b.face
      · by_cases h4 : a.wins = b.wins
        · by_cases h5 : a.many = b.many
          · by_cases h6 : a.com = b.com
            · by_cases h7 : a.cl = b.cl
              · by_cases h8 : a.sig = b.sig <;> simp [h1, h2, h3, h4, h5, h6, h7, h8]
              · simp [h1, h2, h3, h4, h5, h6, h7]
            · simp [h1, h2, h3, h4, h5, h6]
          · simp [h1, h2, h3, h4, h5]
        · simp [h1, h2, h3, h4]
      · simp [h1, h2, h3]
    · simp [h1, h2]
  · simp [h1]
def eqWn (a b : Wn) : Bool := eqTk a.t b.t && (decide (a.salt = b.salt) && decide (a.drawn = b.drawn))
theorem eqWn_iff (a b : Wn) : eqWn a b = true ↔ a = b := by
  obtain ⟨⟨_, _, _, _, _, _, _, _⟩, _, _⟩ := a
  obtain ⟨⟨_, _, _, _, _, _, _, _⟩, _, _⟩ := b
  simp [eqWn, eqTk, and_assoc]
set_option maxRecDepth 100000 in
set_option maxHeartbeats 2000000 in
theorem wnEqIn (W : World) (d : Nat) (a b : Wn) : (Op.equalIn (d + 3) 122 (.agg a.cs) (.agg b.cs)).run Tryz.prog W = .ok (eqWn a b) W := by
  have h1 := tkEqIn W d a.t b.t
  simp only [Tk.cs] at h1
  rw [run_equalIn_struct W (d + 2) 122 _ _ (by kernel_rfl) (by kernel_rfl)]
  have u2 := Tryz.underlying48
  have u3 := Tryz.underlying9
  simp [Program.fieldsOf, Tryz.underlying122, Op.eqFields, go_sem, Wn.cs, toList_beq, int_nat_beq, h1]
  unfold eqWn eqTk
  by_cases h1 : a.t.ch = b.t.ch
  rotate_left
  · simp [h1]
  by_cases h2 : a.t.ser = b.t.ser
  rotate_left
  · simp [h1, h2]
  by_cases h3 : a.t.face = b.t.face
  rotate_left
  · simp [h1, h2, h3]
  by_cases h4 : a.t.wins = b.t.wins
  rotate_left
  · simp [h1, h2, h3, h4]
  by_cases h5 : a.t.many = b.t.many
  rotate_left
  · simp [h1, h2, h3, h4, h5]
  by_cases h6 : a.t.com = b.t.com
  rotate_left
  · simp [h1, h2, h3, h4, h5, h6]
  by_cases h7 : a.t.cl = b.t.cl
  rotate_left
  · simp [h1, h2, h3, h4, h5, h6, h7]
  by_cases h8 : a.t.sig = b.t.sig
  rotate_left
  · simp [h1, h2, h3, h4, h5, h6, h7, h8]
  by_cases k2 : a.salt = b.salt
  rotate_left
  · simp [h1, h2, h3, h4, h5, h6, h7, h8, k2]
  by_cases k3 : a.drawn = b.drawn <;> simp [h1, h2, h3, h4, h5, h6, h7, h8, k2, k3]
theorem wnNeq (W : World) (a b : Wn) : (binOp .neq 122 (.agg a.cs) (.agg b.cs)).run Tryz.prog W = .ok (.bool (!eqWn a b)) W := by
  rw [run_neq_struct, wnEqIn W 9997]; rfl
set_option maxRecDepth 100000 in
set_option maxHeartbeats 2000000 in
theorem nsame_gen (p q : Pf) (w : World) (h : Sl w w.heap.size 10 Wn.cl p.A p.l) (h' : Sl w w.heap.size 10 Wn.cl q.A q.l) (hl : p.l.length ≤ 1000000) :
    Calls Tryz.prog 25 #[.agg p.cs, .agg q.cs] w fun e w' => ∃ z, e = .returned (.bool z) ∧ (z = true ↔ p.am = q.am ∧ p.sig = q.sig ∧ p.tok = q.tok ∧ p.l = q.l) ∧ Below w.heap.size w w' := by
  have HS := Lib.hid h
  have HS' := Lib.hid h'
  have HX := Lib.hid (Blk.alloc (Blk.new w 51 p.cs) (.cells q.cs 51))
  have HY : Hid (Blk ((w.alloc (.cells p.cs 51)).alloc (.cells q.cs 51)) (w.heap.size + 1) 51 q.cs) := Blk.newAt (by simp)
  have HB0 : Hid (Below w.heap.size w ((w.alloc (.cells p.cs 51)).alloc (.cells q.cs 51))) := ((Below.refl _ _).alloc (Nat.le_refl _) _).alloc (by simp) _
  have c0 : ((w.alloc (.cells p.cs 51)).alloc (.cells q.cs 51)).cell? ⟨w.heap.size, 0, none⟩ = some (.int .u64 p.am) := HX.out.cell 0
  have c1 : ((w.alloc (.cells p.cs 51)).alloc (.cells q.cs 51)).cell? ⟨w.heap.size, 1, none⟩ = some (.string p.sig) := HX.out.cell 1
  have c2 : ((w.alloc (.cells p.cs 51)).alloc (.cells q.cs 51)).cell? ⟨w.heap.size, 2, none⟩ = some (.string p.tok) := HX.out.cell 2
  have c3 : ((w.alloc (.cells p.cs 51)).alloc (.cells q.cs 51)).cell? ⟨w.heap.size, 3, none⟩ = some (.slice p.A p.l.length p.c) := HX.out.cell 3
  have e0 : ((w.alloc (.cells p.cs 51)).alloc (.cells q.cs 51)).cell? ⟨w.heap.size + 1, 0, none⟩ = some (.int .u64 q.am) := HY.out.cell 0
  have e1 : ((w.alloc (.cells p.cs 51)).alloc (.cells q.cs 51)).cell? ⟨w.heap.size + 1, 1, none⟩ = some (.string q.sig) := HY.out.cell 1
  have e2 : ((w.alloc (.cells p.cs 51)).alloc (.cells q.cs 51)).cell? ⟨w.heap.size + 1, 2, none⟩ = some (.string q.tok) := HY.out.cell 2
  have e3 : ((w.alloc (.cells p.cs 51)).alloc (.cells q.cs 51)).cell? ⟨w.heap.size + 1, 3, none⟩ = some (.slice q.A q.l.length q.c) := HY.out.cell 3
  by_cases ha : p.am = q.am
  rotate_left
  · have d0 : ((p.am : Int) != (q.am : Int)) = true := by rw [bne_iff_ne]; omega
    have HN := Lib.hid ha
    clear ha h h'
    go_enter Tryz.func25, Tryz.ntmps25
    go_wp2_with fail
    go_ret
    exact ⟨false, rfl, ⟨fun e => (by cases e), fun e => absurd e.1 HN.out⟩, HB0.out⟩
  have d0 : ((p.am : Int) != (q.am : Int)) = false := by rw [ha]; simp
  by_cases hs : p.sig = q.sig
  rotate_left
  · have d1 : (p.sig.toList == q.sig.toList) = false := by rw [toList_beq, decide_eq_false hs]
    have HN := Lib.hid hs
    clear ha hs h h'
    go_enter Tryz.func25, Tryz.ntmps25
    go_wp2_with fail
    go_ret
    exact ⟨false, rfl, ⟨fun e => (by cases e), fun e => absurd e.2.1 HN.out⟩, HB0.out⟩
  have d1 : (p.sig.toList == q.sig.toList) = true := by rw [toList_beq, decide_eq_true hs]
  by_cases ht : p.tok = q.tok
  rotate_left
  · have d2 : (p.tok.toList == q.tok.toList) = false := by rw [toList_beq, decide_eq_false ht]
    have HN := Lib.hid ht
    clear ha hs ht h h'
    go_enter Tryz.func25, Tryz.ntmps25
    go_wp2_with fail
    go_ret
    exact ⟨false, rfl, ⟨fun e => (by cases e), fun e => absurd e.2.2.1 HN.out⟩, HB0.out⟩
  have d2 : (p.tok.toList == q.tok.toList) = true := by rw [toList_beq, decide_eq_true ht]
  by_cases hlr : p.l.length = q.l.length
  rotate_left
  · have d3 : ((p.l.length : Int) != (q.l.length : Int)) = true := by rw [bne_iff_ne]; omega
    have HN : Hid (p.l ≠ q.l) := Lib.hid (fun e => hlr (by rw [e]))
    clear ha hs ht hlr h h'
    go_enter Tryz.func25, Tryz.ntmps25
    go_wp2_with fail
    go_ret
    exact ⟨false, rfl, ⟨fun e => (by cases e), fun e => absurd e.2.2.2 HN.out⟩, HB0.out⟩
  have d3 : ((p.l.length : Int) != (q.l.length : Int)) = false := by rw [hlr]; simp
  have HLR := Lib.hid hlr
  have HP3 : Hid (p.am = q.am ∧ p.sig = q.sig ∧ p.tok = q.tok) := Lib.hid ⟨ha, hs, ht⟩
  obtain ⟨A, hA⟩ : ∃ A, A = p.A := ⟨_, rfl⟩
  obtain ⟨B, hB⟩ : ∃ B, B = q.A := ⟨_, rfl⟩
  rw [← hA] at c3 HS
  rw [← hB] at e3 HS'
  have HA := Lib.hid hA
  have HAB := Lib.hid hB
  have kn := wnNeq
  have kg := fun W x y xs ys => eqGuardN W .neq 122 x y xs ys (by kernel_rfl)
  clear h h' hA hB ha hs ht hlr
  go_enter Tryz.func25, Tryz.ntmps25
  go_wp2_with fail
  clear d0 d1 d2 d3 c0 c1 c2 c3 e0 e1 e2 e3
  go_loopw [37] (fun i wr => ∃ k : Nat, k ≤ p.l.length ∧ i = .int .i64 k ∧ Hid (p.l.take k = q.l.take k) ∧ Hid (Below w.heap.size w wr) ∧ Hid (Blk wr w.heap.size 51 p.cs) ∧ Hid (Blk wr (w.heap.size + 1) 51 q.cs)) (fun i _ => p.l.length - (intOf i).toNat)
  case atStart => exact ⟨0, Nat.zero_le _, rfl, Lib.hid (by simp), HB0, HX, HY⟩
  case round =>
    clear HX HY HB0
    obtain ⟨k, hk, rfl, HK, HB, HX, HY⟩ := hrel
    have hz := HB.out.size
    by_cases hlt : k < p.l.length
    · have hlt' : k < q.l.length := by have := HLR.out; omega
      obtain ⟨ab, off, hAe, _, hc⟩ := (HS.out.below HB.out).at_ hlt
      obtain ⟨ab2, off2, hBe, _, hc2⟩ := (HS'.out.below HB.out).at_ hlt'
      have HE1 : Hid (p.l = q.l → p.l[k] = q.l[k]) := Lib.hid (fun e => by simp only [e])
      have HK1 : Hid (p.l[k] = q.l[k] → p.l.take (k + 1) = q.l.take (k + 1)) := Lib.hid (fun e => by rw [List.take_succ_eq_append_getElem hlt, List.take_succ_eq_append_getElem hlt', HK.out, e])
      generalize p.l[k] = x at hc HE1 HK1
      generalize q.l[k] = y at hc2 HE1 HK1
      have HC1 := Lib.hid hc
      have HC2 := Lib.hid hc2
      have HQ := Lib.hid (eqWn_iff x y)
      have q3 := cell_rg (show wr.cell? ⟨w.heap.size, 3, none⟩ = some (.slice (some ⟨ab, off, none⟩) p.l.length p.c) from (HX.out.cell 3).trans (by rw [← hAe, HA.out]; rfl))
      have r3 := cell_rg (show wr.cell? ⟨w.heap.size + 1, 3, none⟩ = some (.slice (some ⟨ab2, off2, none⟩) q.l.length q.c) from (HY.out.cell 3).trans (by rw [← hBe, HAB.out]; rfl))
      have hx1 := HX.out.lt
      have hy1 := HY.out.lt
      have k1 : (k : Int) < q.l.length := by omega
      clear hc hc2 hAe hBe
      go_upto_region 6 with fail
      refine wp_region_quiet_below (by kernel_rfl) (by kernel_rfl) ?_
      repeat (first | go_big_quiet_skip | (go_big_quiet_want; first | ((first
              | (refine quiet_load_row 122 (.tmp 43) rfl ab (off + k * 10) x.cl HC1.out x.cs (by rfl) (Array.toArray_toList ..) Tryz.underlying122 infoWn ?_; go_simp)
              | (refine quiet_load_row 122 (.tmp 48) rfl ab2 (off2 + k * 10) y.cl HC2.out y.cs (by rfl) (Array.toArray_toList ..) Tryz.underlying122 infoWn ?_; go_simp)); go_big_quiet_on) | (go_big_quiet_op; first | go_big_quiet_on | go_big_quiet_call (fail))))
      refine wpQuiet_nil ?_
      intro U hp
      have hb := bel_regrown hp
      clear hp
      have HB1 := Lib.hid (HB.out.trans (hb.mono hz))
      have HX1 := Lib.hid (HX.out.bel hb)
      have HY1 := Lib.hid (HY.out.bel hb)
      clear hb q3 r3
      generalize eqWn x y = z at HQ ⊢
      cases z with
      | true =>
        have HK2 := Lib.hid (HK1.out (HQ.out.1 rfl))
        go_wp2_with fail
        go_roundw
        case rel => exact ⟨k + 1, by omega, by go_num, HK2, HB1, HX1, HY1⟩
        case measure => simp [intOf]; omega
      | false =>
        go_wp2_with fail
        go_ret
        exact ⟨false, rfl, ⟨fun e => (by cases e), fun e => HQ.out.2 (HE1.out e.2.2.2)⟩, HB1.out⟩
    · have hkl : k = p.l.length := by omega
      have HEND : Hid (p.l = q.l) := Lib.hid (by have h1 := HK.out; have h2 := HLR.out; rw [hkl, List.take_length, h2, List.take_length] at h1; exact h1)
      go_wp2_with fail
      go_ret
      exact ⟨true, rfl, ⟨fun _ => ⟨HP3.out.1, HP3.out.2.1, HP3.out.2.2, HEND.out⟩, fun _ => rfl⟩, HB.out⟩
end Go.Proofs.YtjcinncphffgaaaGreat
