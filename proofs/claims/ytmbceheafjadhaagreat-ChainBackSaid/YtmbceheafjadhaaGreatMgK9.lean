/- coin.Same of any two: whatever it says, of what is alike it says true. slices.EqualFunc of transactions that are alike; block.Same of what is alike. -/
import Derived.Outline
import Derived.Laws.StructEq
import Derived.Test.YtmbceheafjadhaaGreatMgEqE
import Derived.Test.YtmbceheafjadhaaGreatMgG15
import Derived.Test.YtmbceheafjadhaaGreatMgK3
import Derived.Test.YtmbceheafjadhaaGreatMgK4
import Derived.Test.YtmbceheafjadhaaGreatMgN1
set_option linter.unusedVariables false
set_option linter.unusedSimpArgs false
namespace Go.Proofs.YtmbceheafjadhaaGreat
open Go.RowKit Go.Maps
def eqInp (a b : Inp) : Bool := decide (a.tx = b.tx) && (decide (a.out = b.out) && (decide (a.path = b.path) && decide (a.sig = b.sig)))
theorem eqInp_iff (a b : Inp) : eqInp a b = true ↔ a = b := by
  cases a; cases b
  simp [eqInp]
set_option maxRecDepth 100000 in
set_option maxHeartbeats 2000000 in
theorem inpEqIn (W : World) (d : Nat) (a b : Inp) : (Op.equalIn (d + 3) 74 (.agg a.cs) (.agg b.cs)).run Tryz.prog W = .ok (eqInp a b) W := by
  have h1 := ptEqIn W d a.tx b.tx a.out b.out
  rw [run_equalIn_struct W (d + 2) 74 _ _ (by kernel_rfl) (by kernel_rfl)]
  have u1 := Tryz.underlying3
  have u3 := Tryz.underlying9
  simp [Program.fieldsOf, Tryz.underlying74, Op.eqFields, go_sem, Inp.cs, toList_beq, int_beq, h1]
  unfold eqInp
  by_cases k1 : a.tx = b.tx
  · by_cases k2 : a.out = b.out
    · by_cases k3 : a.path = b.path
      · by_cases k4 : a.sig = b.sig <;> simp [k1, k2, k3, k4]
      · simp [k1, k2, k3]
    · simp [k1, k2]
  · simp [k1]
theorem inpNeq (W : World) (a b : Inp) : (binOp .neq 74 (.agg a.cs) (.agg b.cs)).run Tryz.prog W = .ok (.bool (!eqInp a b)) W := by
  rw [run_neq_struct, inpEqIn W 9997]; rfl
def eqTk (a b : Tk) : Bool := decide (a.ch = b.ch) && (decide (a.ser = b.ser) && (decide (a.face = b.face) && (decide (a.wins = b.wins) && (decide (a.many = b.many) && (decide (a.com = b.com) && (decide (a.cl = b.cl) && decide (a.sig = b.sig)))))))
set_option maxRecDepth 100000 in
set_option maxHeartbeats 2000000 in
theorem tkEqIn (W : World) (d : Nat) (a b : Tk) : (Op.equalIn (d + 2) 131 (.agg a.cs) (.agg b.cs)).run Tryz.prog W = .ok (eqTk a b) W := by
  rw [run_equalIn_struct W (d + 1) 131 _ _ (by kernel_rfl) (by kernel_rfl)]
  have u2 := Tryz.underlying55
  have u3 := Tryz.underlying9
  simp [Program.fieldsOf, Tryz.underlying131, Op.eqFields, go_sem, Tk.cs, toList_beq, int_nat_beq]
  unfold eqTk
  by_cases h1 : a.ch = b.ch
  · by_cases h2 : a.ser = b.ser
    · by_cases h3 : a.face = b.face
      · by_cases h4 : a.wins = b.wins
        · by_cases h5 : a.many = b.many
          · by_cases h6 : a.com = b.com
            · by_cases h7 : a.cl = b.cl
              · by_cases h8 : a.sig = b.sig <;> simp [h1, h2, h3, h4, h5, h6, h7, h8]
              · simp [h1, h2, h3, h4, h5, h6, h7]
            · simp [h1, h2, h3, h4, h5, h6]
          · simp [h1, h2, h3, h4, h5]
        · simp [h1, h2, h3, h4]
      · simp [h1, h2, h3]
    · simp [h1, h2]
  · simp [h1]
def eqWn (a b : Wn) : Bool := eqTk a.t b.t && (decide (a.salt = b.salt) && decide (a.drawn = b.drawn))
theorem eqWn_iff (a b : Wn) : eqWn a b = true ↔ a = b := by
  obtain ⟨⟨_, _, _, _, _, _, _, _⟩, _, _⟩ := a
  obtain ⟨⟨_, _, _, _, _, _, _, _⟩, _, _⟩ := b
  simp [eqWn, eqTk, and_assoc]
set_option maxRecDepth 100000 in
set_option maxHeartbeats 2000000 in
theorem wnEqIn (W : World) (d : Nat) (a b : Wn) : (Op.equalIn (d + 3) 133 (.agg a.cs) (.agg b.cs)).run Tryz.prog W = .ok (eqWn a b) W := by
  have h1 := tkEqIn W d a.t b.t
  simp only [Tk.cs] at h1
  rw [run_equalIn_struct W (d + 2) 133 _ _ (by kernel_rfl) (by kernel_rfl)]
  have u2 := Tryz.underlying55
  have u3 := Tryz.underlying9
  simp [Program.fieldsOf, Tryz.underlying133, Op.eqFields, go_sem, Wn.cs, toList_beq, int_nat_beq, h1]
  unfold eqWn eqTk
  by_cases h1 : a.t.ch = b.t.ch
  rotate_left
  · simp [h1]
  by_cases h2 : a.t.ser = b.t.ser
  rotate_left
  · simp [h1, h2]
  by_cases h3 : a.t.face = b.t.face
  rotate_left
  · simp [h1, h2, h3]
  by_cases h4 : a.t.wins = b.t.wins
  rotate_left
  · simp [h1, h2, h3, h4]
  by_cases h5 : a.t.many = b.t.many
  rotate_left
  · simp [h1, h2, h3, h4, h5]
  by_cases h6 : a.t.com = b.t.com
  rotate_left
  · simp [h1, h2, h3, h4, h5, h6]
  by_cases h7 : a.t.cl = b.t.cl
  rotate_left
  · simp [h1, h2, h3, h4, h5, h6, h7]
  by_cases h8 : a.t.sig = b.t.sig
  rotate_left
  · simp [h1, h2, h3, h4, h5, h6, h7, h8]
  by_cases k2 : a.salt = b.salt
  rotate_left
  · simp [h1, h2, h3, h4, h5, h6, h7, h8, k2]
  by_cases k3 : a.drawn = b.drawn <;> simp [h1, h2, h3, h4, h5, h6, h7, h8, k2, k3]
theorem wnNeq (W : World) (a b : Wn) : (binOp .neq 133 (.agg a.cs) (.agg b.cs)).run Tryz.prog W = .ok (.bool (!eqWn a b)) W := by
  rw [run_neq_struct, wnEqIn W 9997]; rfl
set_option maxRecDepth 100000 in
set_option maxHeartbeats 1000000 in
theorem equal_in (A A' : Option Addr) (l r : List Inp) (c c' : Nat) (w : World) (h : Sl w w.heap.size 4 Inp.cl A l) (h' : Sl w w.heap.size 4 Inp.cl A' r) (hl : l.length ≤ 1000000) :
    Calls Tryz.prog 95 #[.slice A l.length c, .slice A' r.length c'] w fun e w' => ∃ q, e = .returned (.bool q) ∧ (q = true ↔ l = r) ∧ Below w.heap.size w w' := by
  by_cases hlr : l.length = r.length
  rotate_left
  · have d : ((l.length : Int) != (r.length : Int)) = true := by simp [bne, beq_eq_false_iff_ne.2 (show (l.length : Int) ≠ r.length by omega)]
    have HN : Hid (l ≠ r) := Lib.hid (fun e => hlr (by rw [e]))
    clear hlr
    go_enter Tryz.func95, Tryz.ntmps95
    go_wp2_with fail
    go_ret
    exact ⟨false, rfl, ⟨fun e => (by cases e), fun e => absurd e HN.out⟩, Below.refl _ _⟩
  have HS := Lib.hid h
  have HS' := Lib.hid h'
  have HLR := Lib.hid hlr
  rw [← hlr]
  clear h h' hlr
  have d : ((l.length : Int) != (l.length : Int)) = false := by simp
  have kn := inpNeq
  have kg := fun W x y xs ys => eqGuardN W .neq 74 x y xs ys (by kernel_rfl)
  go_enter Tryz.func95, Tryz.ntmps95
  go_wp2_with fail
  go_loopw [13] (fun i wr => ∃ k : Nat, k ≤ l.length ∧ i = .int .i64 k ∧ Hid (l.take k = r.take k) ∧ Hid (Below w.heap.size w wr)) (fun i _ => l.length - (intOf i).toNat)
  case atStart => exact ⟨0, Nat.zero_le _, rfl, Lib.hid (by simp), Lib.hid (Below.refl _ _)⟩
  case round =>
    obtain ⟨k, hk, rfl, HK, HB⟩ := hrel
    have hz := HB.out.size
    by_cases hlt : k < l.length
    · have hlt' : k < r.length := by have := HLR.out; omega
      obtain ⟨ab, off, rfl, _, hc⟩ := (HS.out.below HB.out).at_ hlt
      obtain ⟨ab2, off2, rfl, _, hc2⟩ := (HS'.out.below HB.out).at_ hlt'
      have HE1 : Hid (l = r → l[k] = r[k]) := Lib.hid (fun e => by subst e; rfl)
      have HK1 : Hid (l[k] = r[k] → l.take (k + 1) = r.take (k + 1)) := Lib.hid (fun e => by rw [List.take_succ_eq_append_getElem hlt, List.take_succ_eq_append_getElem hlt', HK.out, e])
      generalize l[k] = x at hc HE1 HK1
      generalize r[k] = y at hc2 HE1 HK1
      have HC1 := Lib.hid hc
      have HC2 := Lib.hid hc2
      have HQ := Lib.hid (eqInp_iff x y)
      clear hc hc2
      have k1 : (k : Int) < l.length := by omega
      go_upto_region 6 with fail
      refine wp_region_quiet_below (by kernel_rfl) (by kernel_rfl) ?_
      repeat (first | go_big_quiet_skip | (go_big_quiet_want; first | ((first
              | (refine quiet_load_row 74 (.tmp 18) rfl ab (off + k * 4) x.cl HC1.out x.cs (by rfl) (Array.toArray_toList ..) Tryz.underlying74 infoInZ ?_; go_simp)
              | (refine quiet_load_row 74 (.tmp 22) rfl ab2 (off2 + k * 4) y.cl HC2.out y.cs (by rfl) (Array.toArray_toList ..) Tryz.underlying74 infoInZ ?_; go_simp)); go_big_quiet_on) | (go_big_quiet_op; first | go_big_quiet_on | go_big_quiet_call (fail))))
      refine wpQuiet_nil ?_
      intro U hp
      have hb := bel_regrown hp
      clear hp
      have HB1 := Lib.hid (HB.out.trans (hb.mono hz))
      clear hb
      generalize eqInp x y = q at HQ ⊢
      cases q with
      | true =>
        have HK2 := Lib.hid (HK1.out (HQ.out.1 rfl))
        go_wp2_with fail
        go_roundw
        case rel => exact ⟨k + 1, by omega, by go_num, HK2, HB1⟩
        case measure => simp [intOf]; omega
      | false =>
        go_wp2_with fail
        go_ret
        exact ⟨false, rfl, ⟨fun e => (by cases e), fun e => HQ.out.2 (HE1.out e)⟩, HB1.out⟩
    · have hkl : k = l.length := by omega
      have HEND : Hid (l = r) := Lib.hid (by have h1 := HK.out; have h2 := HLR.out; rw [hkl, List.take_length, h2, List.take_length] at h1; exact h1)
      go_wp2_with fail
      go_ret
      exact ⟨true, rfl, ⟨fun _ => HEND.out, fun _ => rfl⟩, HB.out⟩
set_option maxRecDepth 100000 in
set_option maxHeartbeats 2000000 in
theorem nsame_gen (p q : Pf) (w : World) (h : Sl w w.heap.size 10 Wn.cl p.A p.l) (h' : Sl w w.heap.size 10 Wn.cl q.A q.l) (hl : p.l.length ≤ 1000000) :
    Calls Tryz.prog 38 #[.agg p.cs, .agg q.cs] w fun e w' => ∃ z, e = .returned (.bool z) ∧ (z = true ↔ p.am = q.am ∧ p.sig = q.sig ∧ p.tok = q.tok ∧ p.l = q.l) ∧ Below w.heap.size w w' := by
  have HS := Lib.hid h
  have HS' := Lib.hid h'
  have HX := Lib.hid (Blk.alloc (Blk.new w 68 p.cs) (.cells q.cs 68))
  have HY : Hid (Blk ((w.alloc (.cells p.cs 68)).alloc (.cells q.cs 68)) (w.heap.size + 1) 68 q.cs) := Blk.newAt (by simp)
  have HB0 : Hid (Below w.heap.size w ((w.alloc (.cells p.cs 68)).alloc (.cells q.cs 68))) := ((Below.refl _ _).alloc (Nat.le_refl _) _).alloc (by simp) _
  have c0 : ((w.alloc (.cells p.cs 68)).alloc (.cells q.cs 68)).cell? ⟨w.heap.size, 0, none⟩ = some (.int .u64 p.am) := HX.out.cell 0
  have c1 : ((w.alloc (.cells p.cs 68)).alloc (.cells q.cs 68)).cell? ⟨w.heap.size, 1, none⟩ = some (.string p.sig) := HX.out.cell 1
  have c2 : ((w.alloc (.cells p.cs 68)).alloc (.cells q.cs 68)).cell? ⟨w.heap.size, 2, none⟩ = some (.string p.tok) := HX.out.cell 2
  have c3 : ((w.alloc (.cells p.cs 68)).alloc (.cells q.cs 68)).cell? ⟨w.heap.size, 3, none⟩ = some (.slice p.A p.l.length p.c) := HX.out.cell 3
  have e0 : ((w.alloc (.cells p.cs 68)).alloc (.cells q.cs 68)).cell? ⟨w.heap.size + 1, 0, none⟩ = some (.int .u64 q.am) := HY.out.cell 0
  have e1 : ((w.alloc (.cells p.cs 68)).alloc (.cells q.cs 68)).cell? ⟨w.heap.size + 1, 1, none⟩ = some (.string q.sig) := HY.out.cell 1
  have e2 : ((w.alloc (.cells p.cs 68)).alloc (.cells q.cs 68)).cell? ⟨w.heap.size + 1, 2, none⟩ = some (.string q.tok) := HY.out.cell 2
  have e3 : ((w.alloc (.cells p.cs 68)).alloc (.cells q.cs 68)).cell? ⟨w.heap.size + 1, 3, none⟩ = some (.slice q.A q.l.length q.c) := HY.out.cell 3
  by_cases ha : p.am = q.am
  rotate_left
  · have d0 : ((p.am : Int) != (q.am : Int)) = true := by rw [bne_iff_ne]; omega
    have HN := Lib.hid ha
    clear ha h h'
    go_enter Tryz.func38, Tryz.ntmps38
    go_wp2_with fail
    go_ret
    exact ⟨false, rfl, ⟨fun e => (by cases e), fun e => absurd e.1 HN.out⟩, HB0.out⟩
  have d0 : ((p.am : Int) != (q.am : Int)) = false := by rw [ha]; simp
  by_cases hs : p.sig = q.sig
  rotate_left
  · have d1 : (p.sig.toList == q.sig.toList) = false := by rw [toList_beq, decide_eq_false hs]
    have HN := Lib.hid hs
    clear ha hs h h'
    go_enter Tryz.func38, Tryz.ntmps38
    go_wp2_with fail
    go_ret
    exact ⟨false, rfl, ⟨fun e => (by cases e), fun e => absurd e.2.1 HN.out⟩, HB0.out⟩
  have d1 : (p.sig.toList == q.sig.toList) = true := by rw [toList_beq, decide_eq_true hs]
  by_cases ht : p.tok = q.tok
  rotate_left
  · have d2 : (p.tok.toList == q.tok.toList) = false := by rw [toList_beq, decide_eq_false ht]
    have HN := Lib.hid ht
    clear ha hs ht h h'
    go_enter Tryz.func38, Tryz.ntmps38
    go_wp2_with fail
    go_ret
    exact ⟨false, rfl, ⟨fun e => (by cases e), fun e => absurd e.2.2.1 HN.out⟩, HB0.out⟩
  have d2 : (p.tok.toList == q.tok.toList) = true := by rw [toList_beq, decide_eq_true ht]
  by_cases hlr : p.l.length = q.l.length
  rotate_left
  · have d3 : ((p.l.length : Int) != (q.l.length : Int)) = true := by rw [bne_iff_ne]; omega
    have HN : Hid (p.l ≠ q.l) := Lib.hid (fun e => hlr (by rw [e]))
    clear ha hs ht hlr h h'
    go_enter Tryz.func38, Tryz.ntmps38
    go_wp2_with fail
    go_ret
    exact ⟨false, rfl, ⟨fun e => (by cases e), fun e => absurd e.2.2.2 HN.out⟩, HB0.out⟩
  have d3 : ((p.l.length : Int) != (q.l.length : Int)) = false := by rw [hlr]; simp
  have HLR := Lib.hid hlr
  have HP3 : Hid (p.am = q.am ∧ p.sig = q.sig ∧ p.tok = q.tok) := Lib.hid ⟨ha, hs, ht⟩
  obtain ⟨A, hA⟩ : ∃ A, A = p.A := ⟨_, rfl⟩
  obtain ⟨B, hB⟩ : ∃ B, B = q.A := ⟨_, rfl⟩
  rw [← hA] at c3 HS
  rw [← hB] at e3 HS'
  have HA := Lib.hid hA
  have HAB := Lib.hid hB
  have kn := wnNeq
  have kg := fun W x y xs ys => eqGuardN W .neq 133 x y xs ys (by kernel_rfl)
  clear h h' hA hB ha hs ht hlr
  go_enter Tryz.func38, Tryz.ntmps38
  go_wp2_with fail
  clear d0 d1 d2 d3 c0 c1 c2 c3 e0 e1 e2 e3
  go_loopw [37] (fun i wr => ∃ k : Nat, k ≤ p.l.length ∧ i = .int .i64 k ∧ Hid (p.l.take k = q.l.take k) ∧ Hid (Below w.heap.size w wr) ∧ Hid (Blk wr w.heap.size 68 p.cs) ∧ Hid (Blk wr (w.heap.size + 1) 68 q.cs)) (fun i _ => p.l.length - (intOf i).toNat)
  case atStart => exact ⟨0, Nat.zero_le _, rfl, Lib.hid (by simp), HB0, HX, HY⟩
  case round =>
    clear HX HY HB0
    obtain ⟨k, hk, rfl, HK, HB, HX, HY⟩ := hrel
    have hz := HB.out.size
    by_cases hlt : k < p.l.length
    · have hlt' : k < q.l.length := by have := HLR.out; omega
      obtain ⟨ab, off, hAe, _, hc⟩ := (HS.out.below HB.out).at_ hlt
      obtain ⟨ab2, off2, hBe, _, hc2⟩ := (HS'.out.below HB.out).at_ hlt'
      have HE1 : Hid (p.l = q.l → p.l[k] = q.l[k]) := Lib.hid (fun e => by simp only [e])
      have HK1 : Hid (p.l[k] = q.l[k] → p.l.take (k + 1) = q.l.take (k + 1)) := Lib.hid (fun e => by rw [List.take_succ_eq_append_getElem hlt, List.take_succ_eq_append_getElem hlt', HK.out, e])
      generalize p.l[k] = x at hc HE1 HK1
      generalize q.l[k] = y at hc2 HE1 HK1
      have HC1 := Lib.hid hc
      have HC2 := Lib.hid hc2
      have HQ := Lib.hid (eqWn_iff x y)
      have q3 := cell_rg (show wr.cell? ⟨w.heap.size, 3, none⟩ = some (.slice (some ⟨ab, off, none⟩) p.l.length p.c) from (HX.out.cell 3).trans (by rw [← hAe, HA.out]; rfl))
      have r3 := cell_rg (show wr.cell? ⟨w.heap.size + 1, 3, none⟩ = some (.slice (some ⟨ab2, off2, none⟩) q.l.length q.c) from (HY.out.cell 3).trans (by rw [← hBe, HAB.out]; rfl))
      have hx1 := HX.out.lt
      have hy1 := HY.out.lt
      have k1 : (k : Int) < q.l.length := by omega
      clear hc hc2 hAe hBe
      go_upto_region 6 with fail
      refine wp_region_quiet_below (by kernel_rfl) (by kernel_rfl) ?_
      repeat (first | go_big_quiet_skip | (go_big_quiet_want; first | ((first
              | (refine quiet_load_row 133 (.tmp 43) rfl ab (off + k * 10) x.cl HC1.out x.cs (by rfl) (Array.toArray_toList ..) Tryz.underlying133 infoWn ?_; go_simp)
              | (refine quiet_load_row 133 (.tmp 48) rfl ab2 (off2 + k * 10) y.cl HC2.out y.cs (by rfl) (Array.toArray_toList ..) Tryz.underlying133 infoWn ?_; go_simp)); go_big_quiet_on) | (go_big_quiet_op; first | go_big_quiet_on | go_big_quiet_call (fail))))
      refine wpQuiet_nil ?_
      intro U hp
      have hb := bel_regrown hp
      clear hp
      have HB1 := Lib.hid (HB.out.trans (hb.mono hz))
      have HX1 := Lib.hid (HX.out.bel hb)
      have HY1 := Lib.hid (HY.out.bel hb)
      clear hb q3 r3
      generalize eqWn x y = z at HQ ⊢
      cases z with
      | true =>
        have HK2 := Lib.hid (HK1.out (HQ.out.1 rfl))
        go_wp2_with fail
        go_roundw
        case rel => exact ⟨k + 1, by omega, by go_num, HK2, HB1, HX1, HY1⟩
        case measure => simp [intOf]; omega
      | false =>
        go_wp2_with fail
        go_ret
        exact ⟨false, rfl, ⟨fun e => (by cases e), fun e => HQ.out.2 (HE1.out e.2.2.2)⟩, HB1.out⟩
    · have hkl : k = p.l.length := by omega
      have HEND : Hid (p.l = q.l) := Lib.hid (by have h1 := HK.out; have h2 := HLR.out; rw [hkl, List.take_length, h2, List.take_length] at h1; exact h1)
      go_wp2_with fail
      go_ret
      exact ⟨true, rfl, ⟨fun _ => ⟨HP3.out.1, HP3.out.2.1, HP3.out.2.2, HEND.out⟩, fun _ => rfl⟩, HB.out⟩
set_option maxRecDepth 100000 in
set_option maxHeartbeats 2000000 in
theorem csame_any (t u : Txn) (w : World) (ht : t.mem w) (hu : u.mem w) (h1 : t.ins.length ≤ 1000000) (h2 : t.outs.length ≤ 1000000) (h2' : u.outs.length ≤ 1000000) (h3 : t.p.l.length ≤ 1000000) :
    Calls Tryz.prog 29 #[.agg t.cs, .agg u.cs] w fun e w' => ∃ z, e = .returned (.bool z) ∧ (z = true ↔ t.al u) ∧ Below w.heap.size w w' := by
  have HI := fun W (hW : Below w.heap.size w W) => Lib.hid (equal_in t.A u.A t.ins u.ins t.c u.c W (ht.bel hW).ins (hu.bel hW).ins h1)
  have HO := fun W (hW : Below w.heap.size w W) => Lib.hid (equal_ou t.B u.B t.outs u.outs t.d u.d W (ht.bel hW).outs (hu.bel hW).outs h2 h2')
  have HP := fun W (hW : Below w.heap.size w W) => Lib.hid (nsame_gen t.p u.p W (ht.bel hW).wins (hu.bel hW).wins h3)
  have HEQ := Lib.hid (eqLo_iff t.outs u.outs)
  generalize eqLo t.outs u.outs = qo at HO HEQ
  clear h1 h2 h2' h3 ht hu
  go_enter Tryz.func29, Tryz.ntmps29
  go_upto_region 1 with fail
  refine wp_gen fun V0 hV0 => ?_
  have HB : Hid (Below w.heap.size w V0) := Lib.hid (by rw [hV0]; exact ((Below.refl _ _).alloc (Nat.le_refl _) _).alloc (by simp) _)
  have HX : Hid (Blk V0 w.heap.size 70 t.cs) := Lib.hid (by rw [hV0]; exact (Blk.new _ _ _).alloc _)
  have HY : Hid (Blk V0 (w.heap.size + 1) 70 u.cs) := Lib.hid (by rw [hV0]; exact Blk.newAt (by simp))
  clear hV0
  have x0 : V0.cell? ⟨w.heap.size, 0, none⟩ = some (.slice t.A t.ins.length t.c) := HX.out.cell 0
  have y0 : V0.cell? ⟨w.heap.size + 1, 0, none⟩ = some (.slice u.A u.ins.length u.c) := HY.out.cell 0
  go_wp2_with fail
  refine (HI _ HB.out).out.mono ?_
  rintro e W1 ⟨qi, rfl, hqi, hb⟩
  have HB1 := Lib.hid (HB.out.trans (hb.mono HB.out.size))
  have HX1 := Lib.hid (HX.out.bel hb)
  have HY1 := Lib.hid (HY.out.bel hb)
  have HQI := Lib.hid hqi
  clear hb hqi x0 y0 HB HX HY HI
  have x1 : W1.cell? ⟨w.heap.size, 1, none⟩ = some (.slice t.B t.outs.length t.d) := HX1.out.cell 1
  have y1 : W1.cell? ⟨w.heap.size + 1, 1, none⟩ = some (.slice u.B u.outs.length u.d) := HY1.out.cell 1
  cases qi with
  | false =>
    go_wp2_with fail
    go_ret
    exact ⟨false, rfl, ⟨fun e => (by cases e), fun e => HQI.out.2 e.ins⟩, HB1.out⟩
  | true =>
    go_wp2_with fail
    refine (HO _ HB1.out).out.mono ?_
    rintro e W2 ⟨rfl, hb⟩
    have HB2 := Lib.hid (HB1.out.trans (hb.mono HB1.out.size))
    have HX2 := Lib.hid (HX1.out.bel hb)
    have HY2 := Lib.hid (HY1.out.bel hb)
    clear hb x1 y1 HB1 HX1 HY1 HO
    cases qo with
    | false =>
      go_wp2_with fail
      go_ret
      exact ⟨false, rfl, ⟨fun e => (by cases e), fun e => HEQ.out.2 e.outs⟩, HB2.out⟩
    | true =>
      go_wp2_with (first
        | (refine wpList_load_blkG (by rfl) 68 (.tmp 18) rfl w.heap.size 2 4 HX2.out t.p.cs (by rfl) (by rfl) Tryz.underlying68 infoPf (by show 6 ≤ 6; omega) ?_)
        | (refine wpList_load_blkG (by rfl) 68 (.tmp 20) rfl (w.heap.size + 1) 2 4 HY2.out u.p.cs (by rfl) (by rfl) Tryz.underlying68 infoPf (by show 6 ≤ 6; omega) ?_))
      refine (HP _ HB2.out).out.mono ?_
      rintro e W3 ⟨z, rfl, hz, hb⟩
      go_wp2_with fail
      go_ret
      exact ⟨z, rfl, ⟨fun e => ⟨HQI.out.1 (by trivial), HEQ.out.1 (by trivial), (hz.1 e).1, (hz.1 e).2.1, (hz.1 e).2.2.1, (hz.1 e).2.2.2⟩, fun e => hz.2 ⟨e.am, e.sig, e.tok, e.l⟩⟩, HB2.out.trans (hb.mono HB2.out.size)⟩
/-- do two stand alike -/
noncomputable def sameZ (t u : Txn) : Bool := @decide (t.al u) (Classical.propDecidable _)
theorem sameZ_iff (t u : Txn) : sameZ t u = true ↔ t.al u := by unfold sameZ; exact @decide_eq_true_iff _ (Classical.propDecidable _)
theorem csame_z (t u : Txn) (w : World) (ht : t.mem w) (hu : u.mem w) (h1 : t.ins.length ≤ 1000000) (h2 : t.outs.length ≤ 1000000) (h2' : u.outs.length ≤ 1000000) (h3 : t.p.l.length ≤ 1000000) :
    Calls Tryz.prog 29 #[.agg t.cs, .agg u.cs] w fun e w' => e = .returned (.bool (sameZ t u)) ∧ Below w.heap.size w w' := by
  refine (csame_any t u w ht hu h1 h2 h2' h3).mono ?_
  rintro e w' ⟨z, rfl, hz, hb⟩
  refine ⟨?_, hb⟩
  have : z = sameZ t u := by rw [Bool.eq_iff_iff, hz, sameZ_iff]
  rw [this]
end Go.Proofs.YtmbceheafjadhaaGreat
namespace Go.Proofs.YtmbceheafjadhaaGreat
open Go.RowKit Go.Maps
set_option maxRecDepth 100000 in
set_option maxHeartbeats 2000000 in
theorem equalf_al (A B : Option Addr) (l r : List Txn) (c d : Nat) (w : World) (hl : Sl w w.heap.size 6 Txn.cl A l) (hr : Sl w w.heap.size 6 Txn.cl B r) (hlm : ∀ t ∈ l, t.mem w ∧ TxOk t) (hrm : ∀ t ∈ r, t.mem w ∧ TxOk t) (hal : al2 l r) (hll : l.length ≤ 1000000) :
    Calls Tryz.prog 97 #[.slice A l.length c, .slice B r.length d, .func (Fn.func 29) #[] #[]] w fun e w' => e = .returned (.bool true) ∧ Below w.heap.size w w' := by
  have HS := Lib.hid hl
  have HS' := Lib.hid hr
  have HAL := Lib.hid hal
  have HLR := Lib.hid hal.len
  have hq : ((l.length : Int) != (l.length : Int)) = false := by simp
  have HSM := fun (t : Txn) (ht : t ∈ l) (u : Txn) (hu : u ∈ r) (W : World) (hW : Below w.heap.size w W) => Lib.hid (csame_any t u W ((hlm t ht).1.bel hW) ((hrm u hu).1.bel hW) (by have := (hlm t ht).2.ins; omega) (by have := (hlm t ht).2.outs; omega) (by have := (hrm u hu).2.outs; omega) (by have := (hlm t ht).2.pf.len; omega))
  rw [← hal.len]
  clear hl hr hal hlm hrm
  go_enter Tryz.func97, Tryz.ntmps97
  go_wp2_with fail
  go_loopw [17] (fun i wr => ∃ k : Nat, k ≤ l.length ∧ i = .int .i64 k ∧ Hid (Below w.heap.size w wr)) (fun i _ => l.length - (intOf i).toNat)
  case atStart => exact ⟨0, Nat.zero_le _, rfl, Lib.hid (Below.refl _ _)⟩
  case round =>
    obtain ⟨k, hk, rfl, HB⟩ := hrel
    have hzz := HB.out.size
    by_cases hlt : k < l.length
    · have hlt' : k < r.length := by have := HLR.out; omega
      obtain ⟨ab, off, rfl, hab, hc⟩ := (HS.out.below HB.out).at_ hlt
      obtain ⟨ab2, off2, rfl, hab2, hc2⟩ := (HS'.out.below HB.out).at_ hlt'
      have HE1 : Hid ((l[k]).al r[k]) := Lib.hid (HAL.out.get k _ _ (List.getElem?_eq_getElem hlt) (List.getElem?_eq_getElem hlt'))
      have HF1 := HSM _ (List.getElem_mem hlt) _ (List.getElem_mem hlt')
      generalize l[k] = x at hc HE1 HF1
      generalize r[k] = y at hc2 HE1 HF1
      have HC1 := Lib.hid hc
      have HC2 := Lib.hid (fun (W : World) (hW : Below w.heap.size wr W) (j : Nat) (u : Value) (hu : y.cl[j]? = some u) => (hW.cell (p := ⟨ab2, off2 + k * 6 + j, none⟩) hab2).trans (hc2 j u hu))
      have d0 : decide (k < l.length) = true := decide_eq_true hlt
      have d1 : decide (k < r.length) = true := decide_eq_true hlt'
      have k1 : (k : Int) < r.length := by omega
      clear hc hc2
      go_wp2_with (first
        | (refine wpList_load_tx rfl (.tmp 20) rfl ab (off + k * 6) (by rfl) x HC1.out ?_)
        | (refine wpList_store_part rfl 70 (.tmp 8) (.tmp 21) rfl wr.heap.size 0 (cs := zTxK) (Blk.new _ _ _) x.cs x.cs (by rfl) (by rfl) (Nat.le_refl 6) infoTx (txncs_one x) (txn_over x rfl) ?_; intro W1 hb1 hc1; have HW1 := Lib.hid (bel_st' hc1); have HB1 := Lib.hid (HB.out.trans ((bel_st' hc1).mono hzz)); have HO1 := Lib.hid hb1; have HC3 := Lib.hid (HC2.out W1 (HW1.out.mono hzz)); clear hb1 hc1)
        | (refine wpList_load_tx rfl (.tmp 24) rfl ab2 (off2 + k * 6) (by rfl) y HC3.out ?_)
        | (refine wpList_store_part rfl 70 (.tmp 9) (.tmp 25) rfl W1.heap.size 0 (cs := zTxK) (Blk.new _ _ _) y.cs y.cs (by rfl) (by rfl) (Nat.le_refl 6) infoTx (txncs_one y) (txn_over y rfl) ?_; intro W2 hb2 hc2; have HB2 := Lib.hid (HB1.out.trans ((bel_st' hc2).mono HB1.out.size)); have HO2 := Lib.hid hb2; have HO3 := Lib.hid (HO1.out.bel (bel_st' hc2)); clear hb2 hc2)
        | (refine wpList_load_blk rfl 70 (.tmp 8) rfl wr.heap.size 0 6 HO3.out x.cs (by rfl) (txn_ext x) Tryz.underlying70 infoTx (Nat.le_refl 6) ?_)
        | (refine wpList_load_blk rfl 70 (.tmp 9) rfl W1.heap.size 0 6 HO2.out y.cs (by rfl) (txn_ext y) Tryz.underlying70 infoTx (Nat.le_refl 6) ?_))
      refine (HF1 _ HB2.out).out.mono ?_
      rintro e W3 ⟨z, rfl, hz, hb⟩
      obtain rfl := hz.2 HE1.out
      have HB3 := Lib.hid (HB2.out.trans (hb.mono HB2.out.size))
      clear hb HF1
      go_wp2_with fail
      go_roundw
      case rel => exact ⟨k + 1, by omega, by go_num, HB3⟩
      case measure => simp [intOf]; omega
    · have d0 : decide (k < l.length) = false := decide_eq_false hlt
      go_wp2_with fail
      go_ret
      exact ⟨rfl, HB.out⟩
set_option maxRecDepth 100000 in
set_option maxHeartbeats 1000000 in
theorem bsame_al (b d : Bm) (w : World) (hb : b.mem w) (hd : d.mem w) (hbx : ∀ t ∈ b.txs, TxOk t) (hdx : ∀ t ∈ d.txs, TxOk t) (hal : b.bk.al d.bk) (hl : b.txs.length ≤ 1000000) : Calls Tryz.prog 30 #[.agg b.cs, .agg d.cs] w fun e w' => e = .returned (.bool true) ∧ Below w.heap.size w w' := by
  have HE := fun W (hW : Below w.heap.size w W) => Lib.hid (equalf_al b.A d.A b.txs d.txs b.c d.c W (hb.bel hW).sl (hd.bel hW).sl (fun t ht => ⟨((hb.bel hW).txs t ht).1, hbx t ht⟩) (fun t ht => ⟨((hd.bel hW).txs t ht).1, hdx t ht⟩) hal.txs hl)
  have q0 : (b.h == d.h) = true := by rw [show b.h = d.h from hal.h]; simp
  have q1 : (b.prev.toList == d.prev.toList) = true := by rw [show b.prev = d.prev from hal.prev]; simp
  clear hb hd hbx hdx hal
  go_enter Tryz.func30, Tryz.ntmps30
  go_upto_region 1 with fail
  refine wp_gen fun V0 hV0 => ?_
  have HB : Hid (Below w.heap.size w V0) := Lib.hid (by rw [hV0]; exact ((Below.refl _ _).alloc (Nat.le_refl _) _).alloc (by simp) _)
  have hx : Blk V0 w.heap.size 36 b.cs := by rw [hV0]; exact (Blk.new _ _ _).alloc _
  have hy : Blk V0 (w.heap.size + 1) 36 d.cs := by rw [hV0]; exact Blk.newAt (by simp)
  have x0 : V0.cell? ⟨w.heap.size, 0, none⟩ = some (.int .i64 b.h) := hx.cell 0
  have x1 : V0.cell? ⟨w.heap.size, 1, none⟩ = some (.string b.prev) := hx.cell 1
  have x2 : V0.cell? ⟨w.heap.size, 2, none⟩ = some (.slice b.A b.txs.length b.c) := hx.cell 2
  have y0 : V0.cell? ⟨w.heap.size + 1, 0, none⟩ = some (.int .i64 d.h) := hy.cell 0
  have y1 : V0.cell? ⟨w.heap.size + 1, 1, none⟩ = some (.string d.prev) := hy.cell 1
  have y2 : V0.cell? ⟨w.heap.size + 1, 2, none⟩ = some (.slice d.A d.txs.length d.c) := hy.cell 2
  clear hV0 hx hy
  go_wp2_with fail
  refine (HE _ HB.out).out.mono ?_
  rintro e W1 ⟨rfl, hb2⟩
  go_wp2_with fail
  go_ret
  exact ⟨rfl, HB.out.trans (hb2.mono HB.out.size)⟩
end Go.Proofs.YtmbceheafjadhaaGreat
